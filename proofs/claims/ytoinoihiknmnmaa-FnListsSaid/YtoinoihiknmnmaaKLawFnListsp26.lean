/- Texts of this claim, merged by a program of this session. -/
import Derived.Test.YtoinoihiknmnmaaKLawFnListsp25
section
namespace Go.Proofs.Ytoinoihiknmnmaa.Q
open Go.RowKit Go.Proofs.YtoinoihiknmnmaaW.PrintWords Go.Proofs.YtoinoihiknmnmaaW.PrintLast Go.Proofs.YtoinoihiknmnmaaW.PrintMore
attribute [local go_sem] max2_int min2_int max_two min_two max_three min_three max_four min_four max2_str min2_str str_geq str_gtr str_leq
set_option linter.unusedVariables false
set_option linter.unusedSimpArgs false

def F02.f (k : Nat) (l0 : List Int) (a1_0 : Int) (a1_1 : Int) (a1_2 : ByteArray) : Option (List Int):=if l0.length<140737488355328 then ((some (l0 ++ [(a1_0) % 256] : List Int)).bind fun y350=>(if a1_0=1 then (if y350.length<140737488355328 then (some (y350 ++ [(a1_1) % 256])) else (none)) else (if a1_0=2 then ((Fu.f k (wrap64 (a1_1+4611686018427387904))).bind fun t356=>(if y350.length+t356.length<140737488355328 then (some (y350++t356)) else (none))) else (if a1_0=3 then ((some (([((a1_2.size : Int) / 256) % 256,((a1_2.size : Int)) % 256] : List Int) : List Int)).bind fun y362=>(if y350.length+y362.length<140737488355328 then ((some (y350++y362 : List Int)).bind fun y365=>(if y365.length+a1_2.size<140737488355328 then (some (y365++bytesOf a1_2)) else (none))) else (none))) else (if a1_0=4 then ((some (([((a1_2.size : Int) / 256) % 256,((a1_2.size : Int)) % 256] : List Int) : List Int)).bind fun y371=>(if y350.length+y371.length<140737488355328 then ((some (y350++y371 : List Int)).bind fun y374=>(if y374.length+a1_2.size<140737488355328 then (some (y374++bytesOf a1_2)) else (none))) else (none))) else (if a1_0=5 then ((some (([((a1_2.size : Int) / 256) % 256,((a1_2.size : Int)) % 256] : List Int) : List Int)).bind fun y380=>(if y350.length+y380.length<140737488355328 then ((some (y350++y380 : List Int)).bind fun y383=>(if y383.length+a1_2.size<140737488355328 then (some (y383++bytesOf a1_2)) else (none))) else (none))) else (some y350))))))) else (none)
theorem F02.mono : ∀ a0 a1 a2 a3 k,LeO (F02.f k a0 a1 a2 a3) (F02.f (k+1) a0 a1 a2 a3):=by
 intro a0 a1 a2 a3 k;unfold F02.f
 repeat' first|(with_reducible first|exact Fu.mono _ _|exact zQ _|exact zN _|refine zP ?_ ?_|refine zO ?_ (fun _=>?_))|refine zP ?_ ?_|refine zO ?_ (fun _=>?_)
def F02.T10 : Bool×List (List Nat×List Nat):=(true,[([],[]),([],[]),([1],[1]),([2],[2]),([3],[3]),([4],[4]),([],[]),([6],[6]),([7],[7]),([8],[8]),([5,9],[5,9]),([0,10],[0,10]),([],[]),([12],[12]),([11,13,11],[11,13]),([14,14,0,1,2,3,4,5,6,7,8,9,10,11,12,13,14],[14])])
def F02.B10 : List Nat:=[0,0,2,6,14,30,0,64,192,448,1022,2047,0,4096,16383,32767]
theorem F02.tab10 : rtab .any (opsOf Try.f51 10)=F02.T10:=by kernel_rfl
theorem F02.bits10 : waitsOk F02.T10.2 F02.B10=true:=by kernel_rfl
set_option maxHeartbeats 8000000 in
set_option maxRecDepth 100000 in
theorem F02.calls (k : Nat) (P0_ : Nat→Prop) (u9000_ : Value) (l0 : List Int) (a1_0 : Int) (a1_1 : Int) (a1_2 : ByteArray) (r : List Int) (w0 w : World) (hB : Below w0.heap.size w0 w) (ho0 : Kd.R (Kd.int .u8) 5 w w0.heap.size P0_ u9000_ l0) (h : F02.f k l0 a1_0 a1_1 a1_2=some r) :
  Calls Try.prog 51 #[u9000_,.agg #[.int .i64 a1_0,.int .i64 a1_1,.string a1_2]] w fun e w' => ∃ v0_ : Value,e = .returned (v0_)∧Kd.R (Kd.int .u8) 5 w' w0.heap.size (fun k_=>(P0_ k_∨w.heap.size≤k_)) v0_ r∧Below w0.heap.size w0 w' ∧ Kept w w' (fun k_=>P0_ k_):=by
 have hu25:=Try.underlying25;have HO0:=zh (show Kd.R (Kd.int .u8) 5 w w0.heap.size (fun k_=>(P0_ k_∨w.heap.size≤k_)) u9000_ l0 from zM ho0 (fun k_ hk=>(.inl hk)));have HK:=zh (Kept.refl w (fun k_=>P0_ k_));have HW0:=zh hB.size;have HB:=zh hB;clear hB;have H : (if l0.length<140737488355328 then ((some (l0 ++ [(a1_0) % 256] : List Int)).bind fun y350=>(if a1_0=1 then (if y350.length<140737488355328 then (some (y350 ++ [(a1_1) % 256])) else (none)) else (if a1_0=2 then ((Fu.f k (wrap64 (a1_1+4611686018427387904))).bind fun t356=>(if y350.length+t356.length<140737488355328 then (some (y350++t356)) else (none))) else (if a1_0=3 then ((some (([((a1_2.size : Int) / 256) % 256,((a1_2.size : Int)) % 256] : List Int) : List Int)).bind fun y362=>(if y350.length+y362.length<140737488355328 then ((some (y350++y362 : List Int)).bind fun y365=>(if y365.length+a1_2.size<140737488355328 then (some (y365++bytesOf a1_2)) else (none))) else (none))) else (if a1_0=4 then ((some (([((a1_2.size : Int) / 256) % 256,((a1_2.size : Int)) % 256] : List Int) : List Int)).bind fun y371=>(if y350.length+y371.length<140737488355328 then ((some (y350++y371 : List Int)).bind fun y374=>(if y374.length+a1_2.size<140737488355328 then (some (y374++bytesOf a1_2)) else (none))) else (none))) else (if a1_0=5 then ((some (([((a1_2.size : Int) / 256) % 256,((a1_2.size : Int)) % 256] : List Int) : List Int)).bind fun y380=>(if y350.length+y380.length<140737488355328 then ((some (y350++y380 : List Int)).bind fun y383=>(if y383.length+a1_2.size<140737488355328 then (some (y383++bytesOf a1_2)) else (none))) else (none))) else (some y350))))))) else (none))=some r:=h;clear h
 by_cases c3 : l0.length<140737488355328
 ·
  rw [if_pos c3] at H
  have LMc3:=zh c3;clear c3;obtain ⟨y350,hy350⟩ : ∃ y_ : List Int,y_=(l0 ++ [(a1_0) % 256]):=⟨_,rfl⟩;replace H : (if a1_0=1 then (if y350.length<140737488355328 then (some (y350 ++ [(a1_1) % 256])) else (none)) else (if a1_0=2 then ((Fu.f k (wrap64 (a1_1+4611686018427387904))).bind fun t356=>(if y350.length+t356.length<140737488355328 then (some (y350++t356)) else (none))) else (if a1_0=3 then ((some (([((a1_2.size : Int) / 256) % 256,((a1_2.size : Int)) % 256] : List Int) : List Int)).bind fun y362=>(if y350.length+y362.length<140737488355328 then ((some (y350++y362 : List Int)).bind fun y365=>(if y365.length+a1_2.size<140737488355328 then (some (y365++bytesOf a1_2)) else (none))) else (none))) else (if a1_0=4 then ((some (([((a1_2.size : Int) / 256) % 256,((a1_2.size : Int)) % 256] : List Int) : List Int)).bind fun y371=>(if y350.length+y371.length<140737488355328 then ((some (y350++y371 : List Int)).bind fun y374=>(if y374.length+a1_2.size<140737488355328 then (some (y374++bytesOf a1_2)) else (none))) else (none))) else (if a1_0=5 then ((some (([((a1_2.size : Int) / 256) % 256,((a1_2.size : Int)) % 256] : List Int) : List Int)).bind fun y380=>(if y350.length+y380.length<140737488355328 then ((some (y350++y380 : List Int)).bind fun y383=>(if y383.length+a1_2.size<140737488355328 then (some (y383++bytesOf a1_2)) else (none))) else (none))) else (some y350))))))=some r:=by first|(rw [hy350];with_reducible exact H)|(have H2_:=(Option.bind_some _ _).symm.trans H;rw [hy350];with_reducible exact H2_)|(have H2_:=(Option.bind_some _ _).symm.trans H;with_reducible exact H2_)|with_reducible exact H|(rw [hy350];exact H)|exact H
  have Ny350:=zh hy350;clear hy350
  by_cases c4 : a1_0=1
  ·
   rw [if_pos c4] at H
   have c4b0 : (a1_0 == 1)=true:=ya.mpr c4;have c4b1 : (a1_0 != 1)=false:=zX.mpr c4;clear c4
   by_cases c5 : y350.length<140737488355328
   ·
    rw [if_pos c5] at H
    have LMc5:=zh c5;clear c5;obtain ⟨y353,hy353⟩ : ∃ y_ : List Int,y_=(y350 ++ [(a1_1) % 256]):=⟨_,rfl⟩;replace H : (some y353)=some r:=by first|(rw [hy353];with_reducible exact H)|(have H2_:=(Option.bind_some _ _).symm.trans H;rw [hy353];with_reducible exact H2_)|(have H2_:=(Option.bind_some _ _).symm.trans H;with_reducible exact H2_)|with_reducible exact H|(rw [hy353];exact H)|exact H
    have Ny353:=zh hy353;clear hy353;obtain rfl:=zU H
    go_enter Try.func51,Try.ntmps51
    go_wp2_with (first|((with_reducible refine zK (N:=3) rfl ?_);refine zI ?hg (N:=3) ?hd (cs:=#[.int .i64 a1_0,.int .i64 a1_1,.string a1_2]) (t:=25) ?hr ?_;(case hd=>rfl);(case hg=>rfl);(case hr=>go_simp <;> rfl);intro gb349 hg w6 hbox hb;replace HO0:=zh (yg jAO hb);have BK349:=zh (hbox);have GW349:=zh ((jBA : w.heap.size≤gb349));replace HK:=zh (Kept.below (S:=(fun k_=>P0_ k_)) jBB hb);have GE349:=zh ((jBC : w0.heap.size≤gb349));replace HB:=zh (zC jG hb);clear hb hbox hg;obtain ⟨hcz7_0,hcz7_1,hcz7_2,hfz7_0,hfz7_1,hfz7_2⟩:=cB3 BK349.out)|((with_reducible refine yB (b:=.append) (xs:=#[.tmp 5,.tmp 9]) rfl ?_);at_builtin;refine Kd.R_append (Kd.int .u8) (w0:=w0) w0.heap.size rfl (.tmp 5) (.tmp 9) 33 5 (.int .u8 0) 1 rfl Try.underlying33 info5 rfl jB jH u9000_ l0 ((a1_0) % 256) [.int .u8 ((a1_0) % 256)] (fun k_=>(P0_ k_∨w.heap.size≤k_)) (fun _=>False) rfl rfl ?aP (fun _ hk=>hk.elim) ?aF ?aO ?aB ?aS ?aL ?_;(case aP=>exact rfl);(case aB=>exact jM);(case aF=>exact (fun k_ hk=>(.inr (Nat.le_trans jp hk))));(case aO=>exact jAO);(case aS=>exact (zB jM));(case aL=>have:=LMc3.out;omega);intro v351 w8 ho hb hg hat;rw [← Ny350.out] at ho;replace BK349:=zh (yw (g:=gb349) (o:=.cells #[.int .i64 a1_0,.int .i64 a1_1,.string a1_2] 25 (0,0)) jq hg (Kd.R_ne HO0.out BK349.out jB));replace HB:=zh (hb);replace HK:=zh (yA (S:=(fun k_=>P0_ k_)) hg jg (fun k_ e_=>(HO0.out.1 k_ e_)));have HO352:=zh (ho);clear HO0 ho hb hg hat;obtain ⟨hcz9_0,hcz9_1,hcz9_2,hfz9_0,hfz9_1,hfz9_2⟩:=cB3 BK349.out)|((with_reducible refine yB (b:=.append) (xs:=#[.tmp 15,.tmp 19]) rfl ?_);at_builtin;refine Kd.R_append (Kd.int .u8) (w0:=w0) w0.heap.size rfl (.tmp 15) (.tmp 19) 33 5 (.int .u8 0) 1 rfl Try.underlying33 info5 rfl jB jH v351 y350 ((a1_1) % 256) [.int .u8 ((a1_1) % 256)] (fun k_=>(P0_ k_∨w.heap.size≤k_)) (fun _=>False) rfl rfl ?aP (fun _ hk=>hk.elim) ?aF ?aO ?aB ?aS ?aL ?_;(case aP=>exact rfl);(case aB=>exact jM);(case aF=>exact (fun k_ hk=>(.inr (Nat.le_trans jp hk))));(case aO=>exact jAC);(case aS=>exact (zB jM));(case aL=>have:=LMc5.out;omega);intro v354 w10 ho hb hg hat;rw [← Ny353.out] at ho;replace BK349:=zh (yw (g:=gb349) (o:=.cells #[.int .i64 a1_0,.int .i64 a1_1,.string a1_2] 25 (0,0)) jq hg (Kd.R_ne HO352.out BK349.out jB));replace HB:=zh (hb);replace HK:=zh (yA (S:=(fun k_=>P0_ k_)) hg jg (fun k_ e_=>(HO352.out.1 k_ e_)));have HO355:=zh (ho);clear HO352 ho hb hg hat))
    go_ret
    exact ⟨_,jF,by (with_reducible repeat (first|apply zm|apply zn|apply zo));exact HO355.out,jM,jg⟩
   rw [if_neg c5] at H;exact absurd H (by simp)
  rw [if_neg c4] at H;have c4b0 : (a1_0 == 1)=false:=zY.mpr c4;have c4b1 : (a1_0 != 1)=true:=zZ.mpr c4
  by_cases c11 : a1_0=2
  ·
   rw [if_pos c11] at H
   have c11b0 : (a1_0 == 2)=true:=ya.mpr c11;have c11b1 : (a1_0 != 2)=false:=zX.mpr c11;clear c11;replace H:=zT.mp H;obtain ⟨t356,A120,H⟩:=H;have A12:=zh A120;clear A120
   by_cases c13 : y350.length+t356.length<140737488355328
   ·
    rw [if_pos c13] at H
    have LMc13:=zh c13;clear c13;obtain ⟨y359,hy359⟩ : ∃ y_ : List Int,y_=(y350++t356):=⟨_,rfl⟩;replace H : (some y359)=some r:=by first|(rw [hy359];with_reducible exact H)|(have H2_:=(Option.bind_some _ _).symm.trans H;rw [hy359];with_reducible exact H2_)|(have H2_:=(Option.bind_some _ _).symm.trans H;with_reducible exact H2_)|with_reducible exact H|(rw [hy359];exact H)|exact H
    have Ny359:=zh hy359;clear hy359;obtain rfl:=zU H
    go_enter Try.func51,Try.ntmps51
    go_wp2_with (first|((with_reducible refine zK (N:=3) rfl ?_);refine zI ?hg (N:=3) ?hd (cs:=#[.int .i64 a1_0,.int .i64 a1_1,.string a1_2]) (t:=25) ?hr ?_;(case hd=>rfl);(case hg=>rfl);(case hr=>go_simp <;> rfl);intro gb349 hg w14 hbox hb;replace HO0:=zh (yg jAO hb);have BK349:=zh (hbox);have GW349:=zh ((jBA : w.heap.size≤gb349));replace HK:=zh (Kept.below (S:=(fun k_=>P0_ k_)) jBB hb);have GE349:=zh ((jBC : w0.heap.size≤gb349));replace HB:=zh (zC jG hb);clear hb hbox hg;obtain ⟨hcz15_0,hcz15_1,hcz15_2,hfz15_0,hfz15_1,hfz15_2⟩:=cB3 BK349.out)|((with_reducible refine yB (b:=.append) (xs:=#[.tmp 5,.tmp 9]) rfl ?_);at_builtin;refine Kd.R_append (Kd.int .u8) (w0:=w0) w0.heap.size rfl (.tmp 5) (.tmp 9) 33 5 (.int .u8 0) 1 rfl Try.underlying33 info5 rfl jB jH u9000_ l0 ((a1_0) % 256) [.int .u8 ((a1_0) % 256)] (fun k_=>(P0_ k_∨w.heap.size≤k_)) (fun _=>False) rfl rfl ?aP (fun _ hk=>hk.elim) ?aF ?aO ?aB ?aS ?aL ?_;(case aP=>exact rfl);(case aB=>exact jM);(case aF=>exact (fun k_ hk=>(.inr (Nat.le_trans jp hk))));(case aO=>exact jAO);(case aS=>exact (zB jM));(case aL=>have:=LMc3.out;omega);intro v351 w16 ho hb hg hat;rw [← Ny350.out] at ho;replace BK349:=zh (yw (g:=gb349) (o:=.cells #[.int .i64 a1_0,.int .i64 a1_1,.string a1_2] 25 (0,0)) jq hg (Kd.R_ne HO0.out BK349.out jB));replace HB:=zh (hb);replace HK:=zh (yA (S:=(fun k_=>P0_ k_)) hg jg (fun k_ e_=>(HO0.out.1 k_ e_)));have HO352:=zh (ho);clear HO0 ho hb hg hat;obtain ⟨hcz17_0,hcz17_1,hcz17_2,hfz17_0,hfz17_1,hfz17_2⟩:=cB3 BK349.out)|((with_reducible refine zJ (f:=75) rfl ?_);refine yj (some 27) rfl rfl Try.func75 jA rfl #[.int .i64 (wrap64 (a1_1+4611686018427387904))] rfl jD ?_;(with_reducible refine (Fu.calls k  (wrap64 (a1_1+4611686018427387904)) t356 _ A12.out).mono ?_);rintro e w18 ⟨v357,rfl,ho0,hb⟩;refine ⟨_,rfl,?_⟩;have HO358:=zh (yy (Kd.R_new' (Kd.R_newM (M:=fun k_=>(P0_ k_∨w.heap.size≤k_)) ho0 jp (fun k_ h_ => .inr h_)) (Kd.R_lt jAC)) (zB jM));replace HO352:=zh (Kd.R_elder' jAC (Kd.R_base ho0) hb);replace BK349:=zh (cD BK349.out jq hb);replace HK:=zh (Kept.below (S:=(fun k_=>P0_ k_)) jg hb);replace HB:=zh (zC jM hb);(try clear hb);(try clear hb2);(try clear hk);(try clear hi);(try clear ho0);obtain ⟨Ao20,co20,eo20⟩:=yk HO358.out;subst eo20)|((with_reducible refine yB (b:=.append) (xs:=#[.tmp 23,.tmp 27]) rfl ?_);at_builtin;refine Kd.R_append_rows (Kd.int .u8) (w0:=w0) w0.heap.size rfl (.tmp 23) (.tmp 27) 33 5 (.int .u8 0) 1 rfl Try.underlying33 info5 rfl jB jH v351 y350 t356 _ _ _ (fun k_=>(P0_ k_∨w.heap.size≤k_)∧some k_≠(.slice Ao20 t356.length co20 : Value).ownBlock) (fun _=>False) rfl rfl ?aO ?aR (fun _ _ h=>h) (fun _ h=>h.elim) ?aF ?aB ?aS ?aL ?_;(case aR=>repeat (first|exact (yh HO358.out).2.2|(with_reducible refine Kd.C_alloc ?_ _)|(with_reducible refine Kd.C_drewN ?_ _)|(with_reducible refine Kd.C_drew ?_)));(case aB=>exact jM);(case aF=>exact (fun k_ hk=>⟨(.inr (Nat.le_trans jp hk)),Kd.fresh' (Kd.R_lt (by (with_reducible repeat (first|apply zm|apply zn|apply zo));exact HO358.out)) k_ hk⟩));(case aO=>exact jAC);(case aS=>exact (zB jM));(case aL=>have:=LMc13.out;omega);intro v360 w19 ho hb hg hat;rw [← Ny359.out] at ho;replace BK349:=zh (yw (g:=gb349) (o:=.cells #[.int .i64 a1_0,.int .i64 a1_1,.string a1_2] 25 (0,0)) jq hg (Kd.R_ne HO352.out BK349.out jB));replace HO358:=zh (Kd.R_after (ok:=(fun k_=>(P0_ k_∨w.heap.size≤k_))) (by (with_reducible repeat (first|apply zm|apply zn|apply zo));exact zM HO358.out (fun _ hk=>⟨hk.1.1,hk.2⟩)) hg hat);replace HB:=zh (hb);replace HK:=zh (yA (S:=(fun k_=>P0_ k_)) hg jg (fun k_ e_=>(HO352.out.1 k_ e_).1));have HO361:=zh (ho);clear HO352 ho hb hg hat))
    go_ret
    exact ⟨_,jF,by (with_reducible repeat (first|apply zm|apply zn|apply zo));exact zM HO361.out (fun _ hk=>hk.1),jM,jg⟩
   rw [if_neg c13] at H;exact absurd H (by simp)
  rw [if_neg c11] at H;have c11b0 : (a1_0 == 2)=false:=zY.mpr c11;have c11b1 : (a1_0 != 2)=true:=zZ.mpr c11
  by_cases c21 : a1_0=3
  ·
   rw [if_pos c21] at H
   have c21b0 : (a1_0 == 3)=true:=ya.mpr c21;have c21b1 : (a1_0 != 3)=false:=zX.mpr c21;clear c21;obtain ⟨y362,hy362⟩ : ∃ y_ : List Int,y_=(([((a1_2.size : Int) / 256) % 256,((a1_2.size : Int)) % 256] : List Int)):=⟨_,rfl⟩;replace H : (if y350.length+y362.length<140737488355328 then ((some (y350++y362 : List Int)).bind fun y365=>(if y365.length+a1_2.size<140737488355328 then (some (y365++bytesOf a1_2)) else (none))) else (none))=some r:=by first|(rw [hy362];with_reducible exact H)|(have H2_:=(Option.bind_some _ _).symm.trans H;rw [hy362];with_reducible exact H2_)|(have H2_:=(Option.bind_some _ _).symm.trans H;with_reducible exact H2_)|with_reducible exact H|(rw [hy362];exact H)|exact H
   have Ny362:=zh hy362;clear hy362
   by_cases c22 : y350.length+y362.length<140737488355328
   ·
    rw [if_pos c22] at H
    have LMc22:=zh c22;clear c22;obtain ⟨y365,hy365⟩ : ∃ y_ : List Int,y_=(y350++y362):=⟨_,rfl⟩;replace H : (if y365.length+a1_2.size<140737488355328 then (some (y365++bytesOf a1_2)) else (none))=some r:=by first|(rw [hy365];with_reducible exact H)|(have H2_:=(Option.bind_some _ _).symm.trans H;rw [hy365];with_reducible exact H2_)|(have H2_:=(Option.bind_some _ _).symm.trans H;with_reducible exact H2_)|with_reducible exact H|(rw [hy365];exact H)|exact H
    have Ny365:=zh hy365;clear hy365
    by_cases c23 : y365.length+a1_2.size<140737488355328
    ·
     rw [if_pos c23] at H
     have LMc23:=zh c23;clear c23;obtain ⟨y368,hy368⟩ : ∃ y_ : List Int,y_=(y365++bytesOf a1_2):=⟨_,rfl⟩;replace H : (some y368)=some r:=by first|(rw [hy368];with_reducible exact H)|(have H2_:=(Option.bind_some _ _).symm.trans H;rw [hy368];with_reducible exact H2_)|(have H2_:=(Option.bind_some _ _).symm.trans H;with_reducible exact H2_)|with_reducible exact H|(rw [hy368];exact H)|exact H
     have Ny368:=zh hy368;clear hy368;obtain rfl:=zU H
     go_enter Try.func51,Try.ntmps51
     try go_wp2_with (first|((with_reducible refine zK (N:=3) rfl ?_);refine zI ?hg (N:=3) ?hd (cs:=#[.int .i64 a1_0,.int .i64 a1_1,.string a1_2]) (t:=25) ?hr ?_;(case hd=>rfl);(case hg=>rfl);(case hr=>go_simp <;> rfl);intro gb349 hg w24 hbox hb;replace HO0:=zh (yg jAO hb);have BK349:=zh (hbox);have GW349:=zh ((jBA : w.heap.size≤gb349));replace HK:=zh (Kept.below (S:=(fun k_=>P0_ k_)) jBB hb);have GE349:=zh ((jBC : w0.heap.size≤gb349));replace HB:=zh (zC jG hb);clear hb hbox hg;obtain ⟨hcz25_0,hcz25_1,hcz25_2,hfz25_0,hfz25_1,hfz25_2⟩:=cB3 BK349.out)|((with_reducible refine yB (b:=.append) (xs:=#[.tmp 5,.tmp 9]) rfl ?_);at_builtin;refine Kd.R_append (Kd.int .u8) (w0:=w0) w0.heap.size rfl (.tmp 5) (.tmp 9) 33 5 (.int .u8 0) 1 rfl Try.underlying33 info5 rfl jB jH u9000_ l0 ((a1_0) % 256) [.int .u8 ((a1_0) % 256)] (fun k_=>(P0_ k_∨w.heap.size≤k_)) (fun _=>False) rfl rfl ?aP (fun _ hk=>hk.elim) ?aF ?aO ?aB ?aS ?aL ?_;(case aP=>exact rfl);(case aB=>exact jM);(case aF=>exact (fun k_ hk=>(.inr (Nat.le_trans jp hk))));(case aO=>exact jAO);(case aS=>exact (zB jM));(case aL=>have:=LMc3.out;omega);intro v351 w26 ho hb hg hat;rw [← Ny350.out] at ho;replace BK349:=zh (yw (g:=gb349) (o:=.cells #[.int .i64 a1_0,.int .i64 a1_1,.string a1_2] 25 (0,0)) jq hg (Kd.R_ne HO0.out BK349.out jB));replace HB:=zh (hb);replace HK:=zh (yA (S:=(fun k_=>P0_ k_)) hg jg (fun k_ e_=>(HO0.out.1 k_ e_)));have HO352:=zh (ho);clear HO0 ho hb hg hat;obtain ⟨hcz27_0,hcz27_1,hcz27_2,hfz27_0,hfz27_1,hfz27_2⟩:=cB3 BK349.out))
     replace HO352:=zh (zo HO352.out);replace BK349:=zh (zf BK349.out);replace HK:=zh (zq HK.out);replace HB:=zh (zc HB.out);refine start_ (n:=16) (S:=fun w' => w'.cell? ⟨gb349,0,none⟩=some (.int .i64 a1_0)∧w'.cell? ⟨gb349,1,none⟩=some (.int .i64 a1_1)∧w'.cell? ⟨gb349,2,none⟩=some (.string a1_2)) (ds:=[]) (bm_ 0 16) jA rfl rfl ⟨(zz BK349.out 0).trans rfl,(zz BK349.out 1).trans rfl,(zz BK349.out 2).trans rfl⟩ (fun hHeld=>?_);refine with_tabW F02.tab10 F02.bits10 (fun HT_ HW_=>?_);generalize w26.drew=w28 at HO352 BK349 HK HB hHeld ⊢;refine pure_ (i:=0) (N:=some 33) (v:=?_) (a':=?_) (bm_ 1 16) rfl rfl (any_of HT_.out jA) (fun _ _ _ h=>h) (Or.inl ⟨by rfl,?_⟩) ?_ ?_;rotate_left;exact jb;rotate_left;exact jc
     refine pure_ (i:=1) (N:=some 34) (v:=?_) (a':=?_) (bm_ 2 16) rfl rfl (any_of HT_.out jA) (fun _ _ _ h=>h) (Or.inl ⟨by rfl,?_⟩) ?_ ?_;rotate_left;exact jb;rotate_left;exact jc
     refine pure_ (i:=6) (N:=some 39) (v:=?_) (a':=?_) #[true,true,false,false,false,false,true,false,false,false,false,false,false,false,false,false] rfl rfl (any_of HT_.out jA) (fun _ _ _ h=>h) (Or.inl ⟨by rfl,?_⟩) ?_ ?_;rotate_left;exact jb;rotate_left;exact jc
     refine pure_ (i:=12) (N:=some 45) (v:=?_) (a':=?_) #[true,true,false,false,false,false,true,false,false,false,false,false,true,false,false,false] rfl rfl (any_of HT_.out jA) (fun _ _ _ h=>h) (Or.inl ⟨by rfl,?_⟩) ?_ ?_;rotate_left;exact jb;rotate_left;exact jc
     refine take_ (i:=2) (N:=some 35) (v:=?_) (a':=?_) #[true,true,true,false,false,false,true,false,false,false,false,false,true,false,false,false] rfl rfl (yo HT_.out HW_.out jA) (fun _ _ _ h=>h) (Or.inl ⟨by rfl,?_⟩) hHeld ?_ ?_;rotate_left
     ·
      rintro w' ⟨s0,s1,s2⟩
      go_simp
      with_reducible rfl
     rotate_left
     exact jc
     refine pure_ (i:=3) (N:=some 36) (v:=?_) (a':=?_) #[true,true,true,true,false,false,true,false,false,false,false,false,true,false,false,false] rfl rfl (any_of HT_.out jA) (fun _ _ _ h=>h) (Or.inl ⟨by rfl,?_⟩) ?_ ?_;rotate_left;exact jb;rotate_left;exact jc
     refine pure_ (i:=4) (N:=some 37) (v:=?_) (a':=?_) #[true,true,true,true,true,false,true,false,false,false,false,false,true,false,false,false] rfl rfl (any_of HT_.out jA) (fun _ _ _ h=>h) (Or.inl ⟨by rfl,?_⟩) ?_ ?_;rotate_left;exact jb;rotate_left;exact jc
     refine pure_ (i:=5) (N:=some 38) (v:=?_) (a':=?_) #[true,true,true,true,true,true,true,false,false,false,false,false,true,false,false,false] rfl rfl (any_of HT_.out jA) (fun _ _ _ h=>h) (Or.inl ⟨by rfl,?_⟩) ?_ ?_;rotate_left;exact jb;rotate_left;exact jc
     refine take_ (i:=7) (N:=some 40) (v:=?_) (a':=?_) #[true,true,true,true,true,true,true,true,false,false,false,false,true,false,false,false] rfl rfl (yo HT_.out HW_.out jA) (fun _ _ _ h=>h) (Or.inl ⟨by rfl,?_⟩) hHeld ?_ ?_;rotate_left
     ·
      rintro w' ⟨s0,s1,s2⟩
      go_simp
      with_reducible rfl
     rotate_left
     exact jc
     refine pure_ (i:=8) (N:=some 41) (v:=?_) (a':=?_) #[true,true,true,true,true,true,true,true,true,false,false,false,true,false,false,false] rfl rfl (any_of HT_.out jA) (fun _ _ _ h=>h) (Or.inl ⟨by rfl,?_⟩) ?_ ?_;rotate_left;exact jb;rotate_left;exact jc
     refine pure_ (i:=9) (N:=some 42) (v:=?_) (a':=?_) #[true,true,true,true,true,true,true,true,true,true,false,false,true,false,false,false] rfl rfl (any_of HT_.out jA) (fun _ _ _ h=>h) (Or.inl ⟨by rfl,?_⟩) ?_ ?_;rotate_left;exact jb;rotate_left;exact jc
     refine take_ (i:=13) (N:=some 46) (v:=?_) (a':=?_) #[true,true,true,true,true,true,true,true,true,true,false,false,true,true,false,false] rfl rfl (yo HT_.out HW_.out jA) (fun _ _ _ h=>h) (Or.inl ⟨by rfl,?_⟩) hHeld ?_ ?_;rotate_left
     ·
      rintro w' ⟨s0,s1,s2⟩
      go_simp
      with_reducible rfl
     rotate_left
     exact jc
     refine one_ (i:=10) (N:=some 43) #[true,true,true,true,true,true,true,true,true,true,true,false,true,true,false,false] rfl rfl (one_of HT_.out jA) jB (fun K hK=>?_);refine Kd.R_lit_step (Kd.int .u8) _ 5 ?hg (N:=43) ?hd (xs:=([((a1_2.size : Int) / 256) % 256,((a1_2.size : Int)) % 256] : List Int)) (inner:=[.int .u8 (((a1_2.size : Int) / 256) % 256),.int .u8 (((a1_2.size : Int)) % 256)]) (ok:=fun _=>True) (okp:=fun _=>True) ?hr ?hp (fun _ hk=>hk) trivial (Below.refl _ _) (ye _) (by simp) ?_;(case hd=>rfl);(case hg=>rfl);(case hr=>go_simp <;> rfl);(case hp=>exact (Reps.one (show Kd.M (Kd.int .u8) _ _ _ (((a1_2.size : Int) / 256) % 256) [.int .u8 (((a1_2.size : Int) / 256) % 256)] from rfl) (Reps.one (show Kd.M (Kd.int .u8) _ _ _ (((a1_2.size : Int)) % 256) [.int .u8 (((a1_2.size : Int)) % 256)] from rfl) (Reps.none _ _))));intro v363 w29 ho30 hb hg_ hnew_;clear hg_ hnew_;(first|rw [← Ny362.out] at ho30|(simp only [Int.reduceToNat] at ho30;rw [← Ny362.out] at ho30));have HO364:=zh (yy (Kd.R_new' (Kd.R_newM (M:=fun k_=>(P0_ k_∨w.heap.size≤k_)) ho30 jp (fun k_ h_ => .inr h_)) (Kd.R_lt jAC)) (zB jM));replace HO352:=zh (Kd.R_elder' jAC (Kd.R_base ho30) hb);replace BK349:=zh (cD BK349.out jq hb);replace HK:=zh (Kept.below (S:=(fun k_=>P0_ k_)) jg hb);replace HB:=zh (zC jM hb);clear hb ho30;obtain ⟨Ao32,co32,eo32⟩:=yk HO364.out;(first|subst eo32|(injection eo32 with f1_ f2_ f3_;have f4_:=f1_.symm;have f5_:=f3_.symm;clear f1_ f2_ f3_;subst f4_;subst f5_));refine hK.out _ _ ⟨(zz BK349.out 0).trans rfl,(zz BK349.out 1).trans rfl,(zz BK349.out 2).trans rfl⟩ (fun hHeld=>?_);clear hK K;refine norm_ (a':=?_) ?_ ?_;rotate_left
     ·
      show Act.put _ (some 43) _=_
      simp only [Act.put,zi,zj,zk,zG,zH]
      rfl
     refine one_ (i:=11) (N:=some 44) (bm_ 14 16) rfl rfl (one_of HT_.out jA) jB (fun K hK=>?_);refine Kd.R_append_rows_step (Kd.int .u8) (w0:=w0) w0.heap.size (by rfl) (.tmp 33) (.tmp 43) 33 5 (.int .u8 0) 1 rfl Try.underlying33 info5 rfl jB jH v351 y350 y362 _ _ _ (fun k_=>(P0_ k_∨w.heap.size≤k_)∧some k_≠(.slice Ao32 y362.length co32 : Value).ownBlock) (fun _=>False) rfl rfl ?aO ?aR (fun _ _ h=>h) (fun _ h=>h.elim) ?aF ?aB ?aS ?aL ?_;(case aR=>repeat (first|exact (yh HO364.out).2.2|(with_reducible refine Kd.C_alloc ?_ _)|(with_reducible refine Kd.C_drewN ?_ _)|(with_reducible refine Kd.C_drew ?_)))
     (case aB=>exact jM)
     (case aF=>exact (fun k_ hk=>⟨(.inr (Nat.le_trans jp hk)),Kd.fresh' (Kd.R_lt (by (with_reducible repeat (first|apply zm|apply zn|apply zo));exact HO364.out)) k_ hk⟩))
     (case aO=>exact jAC)
     (case aS=>exact (zB jM))
     (case aL=>have:=LMc22.out;omega)
     intro v366 w31 ho hb hg hat;rw [← Ny365.out] at ho;replace BK349:=zh (yw (g:=gb349) (o:=.cells #[.int .i64 a1_0,.int .i64 a1_1,.string a1_2] 25 (0,0)) jq hg (Kd.R_ne HO352.out BK349.out jB));replace HO364:=zh (Kd.R_after (ok:=(fun k_=>(P0_ k_∨w.heap.size≤k_))) (by (with_reducible repeat (first|apply zm|apply zn|apply zo));exact zM HO364.out (fun _ hk=>⟨hk.1.1,hk.2⟩)) hg hat);replace HB:=zh (hb);replace HK:=zh (yA (S:=(fun k_=>P0_ k_)) hg jg (fun k_ e_=>(HO352.out.1 k_ e_).1));have HO367:=zh (ho);clear HO352 ho hb hg hat;refine hK.out _ _ ⟨(zz BK349.out 0).trans rfl,(zz BK349.out 1).trans rfl,(zz BK349.out 2).trans rfl⟩ (fun hHeld=>?_);clear hK K;refine norm_ (a':=?_) ?_ ?_;rotate_left
     ·
      show Act.put _ (some 44) _=_
      simp only [Act.put,zi,zj,zk,zG,zH]
      rfl
     refine one_ (i:=14) (N:=some 47) (bm_ 15 16) rfl rfl (one_of HT_.out jA) jB (fun K hK=>?_);refine print_append_str_go (w0:=w0) w0.heap.size (by rfl) (.tmp 44) _ 33 9 5 rfl Try.underlying33 Try.underlying9 info5 v366 y365 a1_2 rfl rfl ?aO ?aB ?aS ?aL ?_;(case aB=>exact jM)
     (case aO=>exact (Kd.own_of_R (by (with_reducible repeat (first|apply zm|apply zn|apply zo));exact zM HO367.out (fun _ hk=>hk.1))))
     (case aS=>exact (zB jM))
     (case aL=>have:=LMc23.out;omega)
     intro v369 w33 ho0 hb hg hat;have ho:=Kd.R_of_own (h1:=fun _=>rfl) (ok:=(fun k_=>(P0_ k_∨w.heap.size≤k_))) ho0 (fun k_ e_=>hat.elim (fun h_=>(zM HO367.out (fun _ hk=>hk.1)).1 k_ (h_.symm.trans e_)) (fun ⟨b_,h_,hb_⟩=>(fun k_ hk=>(.inr (Nat.le_trans jp hk))) k_ (zU (h_.symm.trans e_) ▸ hb_)));clear ho0;rw [← Ny368.out] at ho;change Kd.R (Kd.int .u8) 5 w33 w0.heap.size (fun k_=>(P0_ k_∨w.heap.size≤k_)) v369 y368 at ho;replace BK349:=zh (yw (g:=gb349) (o:=.cells #[.int .i64 a1_0,.int .i64 a1_1,.string a1_2] 25 (0,0)) jq hg (Kd.R_ne HO367.out BK349.out jB));replace HB:=zh (hb);replace HK:=zh (yA (S:=(fun k_=>P0_ k_)) hg jg (fun k_ e_=>(HO367.out.1 k_ e_).1));have HO370:=zh (ho);clear HO367 ho hb hg hat;refine hK.out _ _ ⟨(zz BK349.out 0).trans rfl,(zz BK349.out 1).trans rfl,(zz BK349.out 2).trans rfl⟩ (fun hHeld=>?_);clear hK K;refine norm_ (a':=?_) ?_ ?_;rotate_left
     ·
      show Act.put _ (some 47) _=_
      simp only [Act.put,zi,zj,zk,zG,zH]
      rfl
     refine pure_ (i:=15) (N:=some 4) (v:=?_) (a':=?_) (bm_ 16 16) rfl rfl (any_of HT_.out jA) (fun _ _ _ h=>h) (Or.inl ⟨by rfl,?_⟩) ?_ ?_;rotate_left;exact jb;rotate_left;exact jc
     refine done_ (done_of HT_.out jA) ?_
     try go_wp2
     go_ret
     exact ⟨_,jF,by (with_reducible repeat (first|apply zm|apply zn|apply zo));exact HO370.out,jM,jg⟩
    rw [if_neg c23] at H;exact absurd H (by simp)
   rw [if_neg c22] at H;exact absurd H (by simp)
  rw [if_neg c21] at H;have c21b0 : (a1_0 == 3)=false:=zY.mpr c21;have c21b1 : (a1_0 != 3)=true:=zZ.mpr c21
  by_cases c34 : a1_0=4
  ·
   rw [if_pos c34] at H
   have c34b0 : (a1_0 == 4)=true:=ya.mpr c34;have c34b1 : (a1_0 != 4)=false:=zX.mpr c34;clear c34;obtain ⟨y371,hy371⟩ : ∃ y_ : List Int,y_=(([((a1_2.size : Int) / 256) % 256,((a1_2.size : Int)) % 256] : List Int)):=⟨_,rfl⟩;replace H : (if y350.length+y371.length<140737488355328 then ((some (y350++y371 : List Int)).bind fun y374=>(if y374.length+a1_2.size<140737488355328 then (some (y374++bytesOf a1_2)) else (none))) else (none))=some r:=by first|(rw [hy371];with_reducible exact H)|(have H2_:=(Option.bind_some _ _).symm.trans H;rw [hy371];with_reducible exact H2_)|(have H2_:=(Option.bind_some _ _).symm.trans H;with_reducible exact H2_)|with_reducible exact H|(rw [hy371];exact H)|exact H
   have Ny371:=zh hy371;clear hy371
   by_cases c35 : y350.length+y371.length<140737488355328
   ·
    rw [if_pos c35] at H
    have LMc35:=zh c35;clear c35;obtain ⟨y374,hy374⟩ : ∃ y_ : List Int,y_=(y350++y371):=⟨_,rfl⟩;replace H : (if y374.length+a1_2.size<140737488355328 then (some (y374++bytesOf a1_2)) else (none))=some r:=by first|(rw [hy374];with_reducible exact H)|(have H2_:=(Option.bind_some _ _).symm.trans H;rw [hy374];with_reducible exact H2_)|(have H2_:=(Option.bind_some _ _).symm.trans H;with_reducible exact H2_)|with_reducible exact H|(rw [hy374];exact H)|exact H
    have Ny374:=zh hy374;clear hy374
    by_cases c36 : y374.length+a1_2.size<140737488355328
    ·
     rw [if_pos c36] at H
     have LMc36:=zh c36;clear c36;obtain ⟨y377,hy377⟩ : ∃ y_ : List Int,y_=(y374++bytesOf a1_2):=⟨_,rfl⟩;replace H : (some y377)=some r:=by first|(rw [hy377];with_reducible exact H)|(have H2_:=(Option.bind_some _ _).symm.trans H;rw [hy377];with_reducible exact H2_)|(have H2_:=(Option.bind_some _ _).symm.trans H;with_reducible exact H2_)|with_reducible exact H|(rw [hy377];exact H)|exact H
     have Ny377:=zh hy377;clear hy377;obtain rfl:=zU H
     go_enter Try.func51,Try.ntmps51
     try go_wp2_with (first|((with_reducible refine zK (N:=3) rfl ?_);refine zI ?hg (N:=3) ?hd (cs:=#[.int .i64 a1_0,.int .i64 a1_1,.string a1_2]) (t:=25) ?hr ?_;(case hd=>rfl);(case hg=>rfl);(case hr=>go_simp <;> rfl);intro gb349 hg w37 hbox hb;replace HO0:=zh (yg jAO hb);have BK349:=zh (hbox);have GW349:=zh ((jBA : w.heap.size≤gb349));replace HK:=zh (Kept.below (S:=(fun k_=>P0_ k_)) jBB hb);have GE349:=zh ((jBC : w0.heap.size≤gb349));replace HB:=zh (zC jG hb);clear hb hbox hg;obtain ⟨hcz38_0,hcz38_1,hcz38_2,hfz38_0,hfz38_1,hfz38_2⟩:=cB3 BK349.out)|((with_reducible refine yB (b:=.append) (xs:=#[.tmp 5,.tmp 9]) rfl ?_);at_builtin;refine Kd.R_append (Kd.int .u8) (w0:=w0) w0.heap.size rfl (.tmp 5) (.tmp 9) 33 5 (.int .u8 0) 1 rfl Try.underlying33 info5 rfl jB jH u9000_ l0 ((a1_0) % 256) [.int .u8 ((a1_0) % 256)] (fun k_=>(P0_ k_∨w.heap.size≤k_)) (fun _=>False) rfl rfl ?aP (fun _ hk=>hk.elim) ?aF ?aO ?aB ?aS ?aL ?_;(case aP=>exact rfl);(case aB=>exact jM);(case aF=>exact (fun k_ hk=>(.inr (Nat.le_trans jp hk))));(case aO=>exact jAO);(case aS=>exact (zB jM));(case aL=>have:=LMc3.out;omega);intro v351 w39 ho hb hg hat;rw [← Ny350.out] at ho;replace BK349:=zh (yw (g:=gb349) (o:=.cells #[.int .i64 a1_0,.int .i64 a1_1,.string a1_2] 25 (0,0)) jq hg (Kd.R_ne HO0.out BK349.out jB));replace HB:=zh (hb);replace HK:=zh (yA (S:=(fun k_=>P0_ k_)) hg jg (fun k_ e_=>(HO0.out.1 k_ e_)));have HO352:=zh (ho);clear HO0 ho hb hg hat;obtain ⟨hcz40_0,hcz40_1,hcz40_2,hfz40_0,hfz40_1,hfz40_2⟩:=cB3 BK349.out))
     replace HO352:=zh (zo HO352.out);replace BK349:=zh (zf BK349.out);replace HK:=zh (zq HK.out);replace HB:=zh (zc HB.out);refine start_ (n:=16) (S:=fun w' => w'.cell? ⟨gb349,0,none⟩=some (.int .i64 a1_0)∧w'.cell? ⟨gb349,1,none⟩=some (.int .i64 a1_1)∧w'.cell? ⟨gb349,2,none⟩=some (.string a1_2)) (ds:=[]) (bm_ 0 16) jA rfl rfl ⟨(zz BK349.out 0).trans rfl,(zz BK349.out 1).trans rfl,(zz BK349.out 2).trans rfl⟩ (fun hHeld=>?_);refine with_tabW F02.tab10 F02.bits10 (fun HT_ HW_=>?_);generalize w39.drew=w41 at HO352 BK349 HK HB hHeld ⊢;refine pure_ (i:=0) (N:=some 33) (v:=?_) (a':=?_) (bm_ 1 16) rfl rfl (any_of HT_.out jA) (fun _ _ _ h=>h) (Or.inl ⟨by rfl,?_⟩) ?_ ?_;rotate_left;exact jb;rotate_left;exact jc
     refine pure_ (i:=1) (N:=some 34) (v:=?_) (a':=?_) (bm_ 2 16) rfl rfl (any_of HT_.out jA) (fun _ _ _ h=>h) (Or.inl ⟨by rfl,?_⟩) ?_ ?_;rotate_left;exact jb;rotate_left;exact jc
     refine pure_ (i:=6) (N:=some 39) (v:=?_) (a':=?_) #[true,true,false,false,false,false,true,false,false,false,false,false,false,false,false,false] rfl rfl (any_of HT_.out jA) (fun _ _ _ h=>h) (Or.inl ⟨by rfl,?_⟩) ?_ ?_;rotate_left;exact jb;rotate_left;exact jc
     refine pure_ (i:=12) (N:=some 45) (v:=?_) (a':=?_) #[true,true,false,false,false,false,true,false,false,false,false,false,true,false,false,false] rfl rfl (any_of HT_.out jA) (fun _ _ _ h=>h) (Or.inl ⟨by rfl,?_⟩) ?_ ?_;rotate_left;exact jb;rotate_left;exact jc
     refine take_ (i:=2) (N:=some 35) (v:=?_) (a':=?_) #[true,true,true,false,false,false,true,false,false,false,false,false,true,false,false,false] rfl rfl (yo HT_.out HW_.out jA) (fun _ _ _ h=>h) (Or.inl ⟨by rfl,?_⟩) hHeld ?_ ?_;rotate_left
     ·
      rintro w' ⟨s0,s1,s2⟩
      go_simp
      with_reducible rfl
     rotate_left
     exact jc
     refine pure_ (i:=3) (N:=some 36) (v:=?_) (a':=?_) #[true,true,true,true,false,false,true,false,false,false,false,false,true,false,false,false] rfl rfl (any_of HT_.out jA) (fun _ _ _ h=>h) (Or.inl ⟨by rfl,?_⟩) ?_ ?_;rotate_left;exact jb;rotate_left;exact jc
     refine pure_ (i:=4) (N:=some 37) (v:=?_) (a':=?_) #[true,true,true,true,true,false,true,false,false,false,false,false,true,false,false,false] rfl rfl (any_of HT_.out jA) (fun _ _ _ h=>h) (Or.inl ⟨by rfl,?_⟩) ?_ ?_;rotate_left;exact jb;rotate_left;exact jc
     refine pure_ (i:=5) (N:=some 38) (v:=?_) (a':=?_) #[true,true,true,true,true,true,true,false,false,false,false,false,true,false,false,false] rfl rfl (any_of HT_.out jA) (fun _ _ _ h=>h) (Or.inl ⟨by rfl,?_⟩) ?_ ?_;rotate_left;exact jb;rotate_left;exact jc
     refine take_ (i:=7) (N:=some 40) (v:=?_) (a':=?_) #[true,true,true,true,true,true,true,true,false,false,false,false,true,false,false,false] rfl rfl (yo HT_.out HW_.out jA) (fun _ _ _ h=>h) (Or.inl ⟨by rfl,?_⟩) hHeld ?_ ?_;rotate_left
     ·
      rintro w' ⟨s0,s1,s2⟩
      go_simp
      with_reducible rfl
     rotate_left
     exact jc
     refine pure_ (i:=8) (N:=some 41) (v:=?_) (a':=?_) #[true,true,true,true,true,true,true,true,true,false,false,false,true,false,false,false] rfl rfl (any_of HT_.out jA) (fun _ _ _ h=>h) (Or.inl ⟨by rfl,?_⟩) ?_ ?_;rotate_left;exact jb;rotate_left;exact jc
     refine pure_ (i:=9) (N:=some 42) (v:=?_) (a':=?_) #[true,true,true,true,true,true,true,true,true,true,false,false,true,false,false,false] rfl rfl (any_of HT_.out jA) (fun _ _ _ h=>h) (Or.inl ⟨by rfl,?_⟩) ?_ ?_;rotate_left;exact jb;rotate_left;exact jc
     refine take_ (i:=13) (N:=some 46) (v:=?_) (a':=?_) #[true,true,true,true,true,true,true,true,true,true,false,false,true,true,false,false] rfl rfl (yo HT_.out HW_.out jA) (fun _ _ _ h=>h) (Or.inl ⟨by rfl,?_⟩) hHeld ?_ ?_;rotate_left
     ·
      rintro w' ⟨s0,s1,s2⟩
      go_simp
      with_reducible rfl
     rotate_left
     exact jc
     refine one_ (i:=10) (N:=some 43) #[true,true,true,true,true,true,true,true,true,true,true,false,true,true,false,false] rfl rfl (one_of HT_.out jA) jB (fun K hK=>?_);refine Kd.R_lit_step (Kd.int .u8) _ 5 ?hg (N:=43) ?hd (xs:=([((a1_2.size : Int) / 256) % 256,((a1_2.size : Int)) % 256] : List Int)) (inner:=[.int .u8 (((a1_2.size : Int) / 256) % 256),.int .u8 (((a1_2.size : Int)) % 256)]) (ok:=fun _=>True) (okp:=fun _=>True) ?hr ?hp (fun _ hk=>hk) trivial (Below.refl _ _) (ye _) (by simp) ?_;(case hd=>rfl);(case hg=>rfl);(case hr=>go_simp <;> rfl);(case hp=>exact (Reps.one (show Kd.M (Kd.int .u8) _ _ _ (((a1_2.size : Int) / 256) % 256) [.int .u8 (((a1_2.size : Int) / 256) % 256)] from rfl) (Reps.one (show Kd.M (Kd.int .u8) _ _ _ (((a1_2.size : Int)) % 256) [.int .u8 (((a1_2.size : Int)) % 256)] from rfl) (Reps.none _ _))));intro v372 w42 ho43 hb hg_ hnew_;clear hg_ hnew_;(first|rw [← Ny371.out] at ho43|(simp only [Int.reduceToNat] at ho43;rw [← Ny371.out] at ho43));have HO373:=zh (yy (Kd.R_new' (Kd.R_newM (M:=fun k_=>(P0_ k_∨w.heap.size≤k_)) ho43 jp (fun k_ h_ => .inr h_)) (Kd.R_lt jAC)) (zB jM));replace HO352:=zh (Kd.R_elder' jAC (Kd.R_base ho43) hb);replace BK349:=zh (cD BK349.out jq hb);replace HK:=zh (Kept.below (S:=(fun k_=>P0_ k_)) jg hb);replace HB:=zh (zC jM hb);clear hb ho43;obtain ⟨Ao45,co45,eo45⟩:=yk HO373.out;(first|subst eo45|(injection eo45 with f1_ f2_ f3_;have f4_:=f1_.symm;have f5_:=f3_.symm;clear f1_ f2_ f3_;subst f4_;subst f5_));refine hK.out _ _ ⟨(zz BK349.out 0).trans rfl,(zz BK349.out 1).trans rfl,(zz BK349.out 2).trans rfl⟩ (fun hHeld=>?_);clear hK K;refine norm_ (a':=?_) ?_ ?_;rotate_left
     ·
      show Act.put _ (some 43) _=_
      simp only [Act.put,zi,zj,zk,zG,zH]
      rfl
     refine one_ (i:=11) (N:=some 44) (bm_ 14 16) rfl rfl (one_of HT_.out jA) jB (fun K hK=>?_);refine Kd.R_append_rows_step (Kd.int .u8) (w0:=w0) w0.heap.size (by rfl) (.tmp 33) (.tmp 43) 33 5 (.int .u8 0) 1 rfl Try.underlying33 info5 rfl jB jH v351 y350 y371 _ _ _ (fun k_=>(P0_ k_∨w.heap.size≤k_)∧some k_≠(.slice Ao45 y371.length co45 : Value).ownBlock) (fun _=>False) rfl rfl ?aO ?aR (fun _ _ h=>h) (fun _ h=>h.elim) ?aF ?aB ?aS ?aL ?_;(case aR=>repeat (first|exact (yh HO373.out).2.2|(with_reducible refine Kd.C_alloc ?_ _)|(with_reducible refine Kd.C_drewN ?_ _)|(with_reducible refine Kd.C_drew ?_)))
     (case aB=>exact jM)
     (case aF=>exact (fun k_ hk=>⟨(.inr (Nat.le_trans jp hk)),Kd.fresh' (Kd.R_lt (by (with_reducible repeat (first|apply zm|apply zn|apply zo));exact HO373.out)) k_ hk⟩))
     (case aO=>exact jAC)
     (case aS=>exact (zB jM))
     (case aL=>have:=LMc35.out;omega)
     intro v375 w44 ho hb hg hat;rw [← Ny374.out] at ho;replace BK349:=zh (yw (g:=gb349) (o:=.cells #[.int .i64 a1_0,.int .i64 a1_1,.string a1_2] 25 (0,0)) jq hg (Kd.R_ne HO352.out BK349.out jB));replace HO373:=zh (Kd.R_after (ok:=(fun k_=>(P0_ k_∨w.heap.size≤k_))) (by (with_reducible repeat (first|apply zm|apply zn|apply zo));exact zM HO373.out (fun _ hk=>⟨hk.1.1,hk.2⟩)) hg hat);replace HB:=zh (hb);replace HK:=zh (yA (S:=(fun k_=>P0_ k_)) hg jg (fun k_ e_=>(HO352.out.1 k_ e_).1));have HO376:=zh (ho);clear HO352 ho hb hg hat;refine hK.out _ _ ⟨(zz BK349.out 0).trans rfl,(zz BK349.out 1).trans rfl,(zz BK349.out 2).trans rfl⟩ (fun hHeld=>?_);clear hK K;refine norm_ (a':=?_) ?_ ?_;rotate_left
     ·
      show Act.put _ (some 44) _=_
      simp only [Act.put,zi,zj,zk,zG,zH]
      rfl
     refine one_ (i:=14) (N:=some 47) (bm_ 15 16) rfl rfl (one_of HT_.out jA) jB (fun K hK=>?_);refine print_append_str_go (w0:=w0) w0.heap.size (by rfl) (.tmp 44) _ 33 9 5 rfl Try.underlying33 Try.underlying9 info5 v375 y374 a1_2 rfl rfl ?aO ?aB ?aS ?aL ?_;(case aB=>exact jM)
     (case aO=>exact (Kd.own_of_R (by (with_reducible repeat (first|apply zm|apply zn|apply zo));exact zM HO376.out (fun _ hk=>hk.1))))
     (case aS=>exact (zB jM))
     (case aL=>have:=LMc36.out;omega)
     intro v378 w46 ho0 hb hg hat;have ho:=Kd.R_of_own (h1:=fun _=>rfl) (ok:=(fun k_=>(P0_ k_∨w.heap.size≤k_))) ho0 (fun k_ e_=>hat.elim (fun h_=>(zM HO376.out (fun _ hk=>hk.1)).1 k_ (h_.symm.trans e_)) (fun ⟨b_,h_,hb_⟩=>(fun k_ hk=>(.inr (Nat.le_trans jp hk))) k_ (zU (h_.symm.trans e_) ▸ hb_)));clear ho0;rw [← Ny377.out] at ho;change Kd.R (Kd.int .u8) 5 w46 w0.heap.size (fun k_=>(P0_ k_∨w.heap.size≤k_)) v378 y377 at ho;replace BK349:=zh (yw (g:=gb349) (o:=.cells #[.int .i64 a1_0,.int .i64 a1_1,.string a1_2] 25 (0,0)) jq hg (Kd.R_ne HO376.out BK349.out jB));replace HB:=zh (hb);replace HK:=zh (yA (S:=(fun k_=>P0_ k_)) hg jg (fun k_ e_=>(HO376.out.1 k_ e_).1));have HO379:=zh (ho);clear HO376 ho hb hg hat;refine hK.out _ _ ⟨(zz BK349.out 0).trans rfl,(zz BK349.out 1).trans rfl,(zz BK349.out 2).trans rfl⟩ (fun hHeld=>?_);clear hK K;refine norm_ (a':=?_) ?_ ?_;rotate_left
     ·
      show Act.put _ (some 47) _=_
      simp only [Act.put,zi,zj,zk,zG,zH]
      rfl
     refine pure_ (i:=15) (N:=some 4) (v:=?_) (a':=?_) (bm_ 16 16) rfl rfl (any_of HT_.out jA) (fun _ _ _ h=>h) (Or.inl ⟨by rfl,?_⟩) ?_ ?_;rotate_left;exact jb;rotate_left;exact jc
     refine done_ (done_of HT_.out jA) ?_
     try go_wp2
     go_ret
     exact ⟨_,jF,by (with_reducible repeat (first|apply zm|apply zn|apply zo));exact HO379.out,jM,jg⟩
    rw [if_neg c36] at H;exact absurd H (by simp)
   rw [if_neg c35] at H;exact absurd H (by simp)
  rw [if_neg c34] at H;have c34b0 : (a1_0 == 4)=false:=zY.mpr c34;have c34b1 : (a1_0 != 4)=true:=zZ.mpr c34
  by_cases c47 : a1_0=5
  ·
   rw [if_pos c47] at H
   have c47b0 : (a1_0 == 5)=true:=ya.mpr c47;have c47b1 : (a1_0 != 5)=false:=zX.mpr c47;clear c47;obtain ⟨y380,hy380⟩ : ∃ y_ : List Int,y_=(([((a1_2.size : Int) / 256) % 256,((a1_2.size : Int)) % 256] : List Int)):=⟨_,rfl⟩;replace H : (if y350.length+y380.length<140737488355328 then ((some (y350++y380 : List Int)).bind fun y383=>(if y383.length+a1_2.size<140737488355328 then (some (y383++bytesOf a1_2)) else (none))) else (none))=some r:=by first|(rw [hy380];with_reducible exact H)|(have H2_:=(Option.bind_some _ _).symm.trans H;rw [hy380];with_reducible exact H2_)|(have H2_:=(Option.bind_some _ _).symm.trans H;with_reducible exact H2_)|with_reducible exact H|(rw [hy380];exact H)|exact H
   have Ny380:=zh hy380;clear hy380
   by_cases c48 : y350.length+y380.length<140737488355328
   ·
    rw [if_pos c48] at H
    have LMc48:=zh c48;clear c48;obtain ⟨y383,hy383⟩ : ∃ y_ : List Int,y_=(y350++y380):=⟨_,rfl⟩;replace H : (if y383.length+a1_2.size<140737488355328 then (some (y383++bytesOf a1_2)) else (none))=some r:=by first|(rw [hy383];with_reducible exact H)|(have H2_:=(Option.bind_some _ _).symm.trans H;rw [hy383];with_reducible exact H2_)|(have H2_:=(Option.bind_some _ _).symm.trans H;with_reducible exact H2_)|with_reducible exact H|(rw [hy383];exact H)|exact H
    have Ny383:=zh hy383;clear hy383
    by_cases c49 : y383.length+a1_2.size<140737488355328
    ·
     rw [if_pos c49] at H
     have LMc49:=zh c49;clear c49;obtain ⟨y386,hy386⟩ : ∃ y_ : List Int,y_=(y383++bytesOf a1_2):=⟨_,rfl⟩;replace H : (some y386)=some r:=by first|(rw [hy386];with_reducible exact H)|(have H2_:=(Option.bind_some _ _).symm.trans H;rw [hy386];with_reducible exact H2_)|(have H2_:=(Option.bind_some _ _).symm.trans H;with_reducible exact H2_)|with_reducible exact H|(rw [hy386];exact H)|exact H
     have Ny386:=zh hy386;clear hy386;obtain rfl:=zU H
     go_enter Try.func51,Try.ntmps51
     try go_wp2_with (first|((with_reducible refine zK (N:=3) rfl ?_);refine zI ?hg (N:=3) ?hd (cs:=#[.int .i64 a1_0,.int .i64 a1_1,.string a1_2]) (t:=25) ?hr ?_;(case hd=>rfl);(case hg=>rfl);(case hr=>go_simp <;> rfl);intro gb349 hg w50 hbox hb;replace HO0:=zh (yg jAO hb);have BK349:=zh (hbox);have GW349:=zh ((jBA : w.heap.size≤gb349));replace HK:=zh (Kept.below (S:=(fun k_=>P0_ k_)) jBB hb);have GE349:=zh ((jBC : w0.heap.size≤gb349));replace HB:=zh (zC jG hb);clear hb hbox hg;obtain ⟨hcz51_0,hcz51_1,hcz51_2,hfz51_0,hfz51_1,hfz51_2⟩:=cB3 BK349.out)|((with_reducible refine yB (b:=.append) (xs:=#[.tmp 5,.tmp 9]) rfl ?_);at_builtin;refine Kd.R_append (Kd.int .u8) (w0:=w0) w0.heap.size rfl (.tmp 5) (.tmp 9) 33 5 (.int .u8 0) 1 rfl Try.underlying33 info5 rfl jB jH u9000_ l0 ((a1_0) % 256) [.int .u8 ((a1_0) % 256)] (fun k_=>(P0_ k_∨w.heap.size≤k_)) (fun _=>False) rfl rfl ?aP (fun _ hk=>hk.elim) ?aF ?aO ?aB ?aS ?aL ?_;(case aP=>exact rfl);(case aB=>exact jM);(case aF=>exact (fun k_ hk=>(.inr (Nat.le_trans jp hk))));(case aO=>exact jAO);(case aS=>exact (zB jM));(case aL=>have:=LMc3.out;omega);intro v351 w52 ho hb hg hat;rw [← Ny350.out] at ho;replace BK349:=zh (yw (g:=gb349) (o:=.cells #[.int .i64 a1_0,.int .i64 a1_1,.string a1_2] 25 (0,0)) jq hg (Kd.R_ne HO0.out BK349.out jB));replace HB:=zh (hb);replace HK:=zh (yA (S:=(fun k_=>P0_ k_)) hg jg (fun k_ e_=>(HO0.out.1 k_ e_)));have HO352:=zh (ho);clear HO0 ho hb hg hat;obtain ⟨hcz53_0,hcz53_1,hcz53_2,hfz53_0,hfz53_1,hfz53_2⟩:=cB3 BK349.out))
     replace HO352:=zh (zo HO352.out);replace BK349:=zh (zf BK349.out);replace HK:=zh (zq HK.out);replace HB:=zh (zc HB.out);refine start_ (n:=16) (S:=fun w' => w'.cell? ⟨gb349,0,none⟩=some (.int .i64 a1_0)∧w'.cell? ⟨gb349,1,none⟩=some (.int .i64 a1_1)∧w'.cell? ⟨gb349,2,none⟩=some (.string a1_2)) (ds:=[]) (bm_ 0 16) jA rfl rfl ⟨(zz BK349.out 0).trans rfl,(zz BK349.out 1).trans rfl,(zz BK349.out 2).trans rfl⟩ (fun hHeld=>?_);refine with_tabW F02.tab10 F02.bits10 (fun HT_ HW_=>?_);generalize w52.drew=w54 at HO352 BK349 HK HB hHeld ⊢;refine pure_ (i:=0) (N:=some 33) (v:=?_) (a':=?_) (bm_ 1 16) rfl rfl (any_of HT_.out jA) (fun _ _ _ h=>h) (Or.inl ⟨by rfl,?_⟩) ?_ ?_;rotate_left;exact jb;rotate_left;exact jc
     refine pure_ (i:=1) (N:=some 34) (v:=?_) (a':=?_) (bm_ 2 16) rfl rfl (any_of HT_.out jA) (fun _ _ _ h=>h) (Or.inl ⟨by rfl,?_⟩) ?_ ?_;rotate_left;exact jb;rotate_left;exact jc
     refine pure_ (i:=6) (N:=some 39) (v:=?_) (a':=?_) #[true,true,false,false,false,false,true,false,false,false,false,false,false,false,false,false] rfl rfl (any_of HT_.out jA) (fun _ _ _ h=>h) (Or.inl ⟨by rfl,?_⟩) ?_ ?_;rotate_left;exact jb;rotate_left;exact jc
     refine pure_ (i:=12) (N:=some 45) (v:=?_) (a':=?_) #[true,true,false,false,false,false,true,false,false,false,false,false,true,false,false,false] rfl rfl (any_of HT_.out jA) (fun _ _ _ h=>h) (Or.inl ⟨by rfl,?_⟩) ?_ ?_;rotate_left;exact jb;rotate_left;exact jc
     refine take_ (i:=2) (N:=some 35) (v:=?_) (a':=?_) #[true,true,true,false,false,false,true,false,false,false,false,false,true,false,false,false] rfl rfl (yo HT_.out HW_.out jA) (fun _ _ _ h=>h) (Or.inl ⟨by rfl,?_⟩) hHeld ?_ ?_;rotate_left
     ·
      rintro w' ⟨s0,s1,s2⟩
      go_simp
      with_reducible rfl
     rotate_left
     exact jc
     refine pure_ (i:=3) (N:=some 36) (v:=?_) (a':=?_) #[true,true,true,true,false,false,true,false,false,false,false,false,true,false,false,false] rfl rfl (any_of HT_.out jA) (fun _ _ _ h=>h) (Or.inl ⟨by rfl,?_⟩) ?_ ?_;rotate_left;exact jb;rotate_left;exact jc
     refine pure_ (i:=4) (N:=some 37) (v:=?_) (a':=?_) #[true,true,true,true,true,false,true,false,false,false,false,false,true,false,false,false] rfl rfl (any_of HT_.out jA) (fun _ _ _ h=>h) (Or.inl ⟨by rfl,?_⟩) ?_ ?_;rotate_left;exact jb;rotate_left;exact jc
     refine pure_ (i:=5) (N:=some 38) (v:=?_) (a':=?_) #[true,true,true,true,true,true,true,false,false,false,false,false,true,false,false,false] rfl rfl (any_of HT_.out jA) (fun _ _ _ h=>h) (Or.inl ⟨by rfl,?_⟩) ?_ ?_;rotate_left;exact jb;rotate_left;exact jc
     refine take_ (i:=7) (N:=some 40) (v:=?_) (a':=?_) #[true,true,true,true,true,true,true,true,false,false,false,false,true,false,false,false] rfl rfl (yo HT_.out HW_.out jA) (fun _ _ _ h=>h) (Or.inl ⟨by rfl,?_⟩) hHeld ?_ ?_;rotate_left
     ·
      rintro w' ⟨s0,s1,s2⟩
      go_simp
      with_reducible rfl
     rotate_left
     exact jc
     refine pure_ (i:=8) (N:=some 41) (v:=?_) (a':=?_) #[true,true,true,true,true,true,true,true,true,false,false,false,true,false,false,false] rfl rfl (any_of HT_.out jA) (fun _ _ _ h=>h) (Or.inl ⟨by rfl,?_⟩) ?_ ?_;rotate_left;exact jb;rotate_left;exact jc
     refine pure_ (i:=9) (N:=some 42) (v:=?_) (a':=?_) #[true,true,true,true,true,true,true,true,true,true,false,false,true,false,false,false] rfl rfl (any_of HT_.out jA) (fun _ _ _ h=>h) (Or.inl ⟨by rfl,?_⟩) ?_ ?_;rotate_left;exact jb;rotate_left;exact jc
     refine take_ (i:=13) (N:=some 46) (v:=?_) (a':=?_) #[true,true,true,true,true,true,true,true,true,true,false,false,true,true,false,false] rfl rfl (yo HT_.out HW_.out jA) (fun _ _ _ h=>h) (Or.inl ⟨by rfl,?_⟩) hHeld ?_ ?_;rotate_left
     ·
      rintro w' ⟨s0,s1,s2⟩
      go_simp
      with_reducible rfl
     rotate_left
     exact jc
     refine one_ (i:=10) (N:=some 43) #[true,true,true,true,true,true,true,true,true,true,true,false,true,true,false,false] rfl rfl (one_of HT_.out jA) jB (fun K hK=>?_);refine Kd.R_lit_step (Kd.int .u8) _ 5 ?hg (N:=43) ?hd (xs:=([((a1_2.size : Int) / 256) % 256,((a1_2.size : Int)) % 256] : List Int)) (inner:=[.int .u8 (((a1_2.size : Int) / 256) % 256),.int .u8 (((a1_2.size : Int)) % 256)]) (ok:=fun _=>True) (okp:=fun _=>True) ?hr ?hp (fun _ hk=>hk) trivial (Below.refl _ _) (ye _) (by simp) ?_;(case hd=>rfl);(case hg=>rfl);(case hr=>go_simp <;> rfl);(case hp=>exact (Reps.one (show Kd.M (Kd.int .u8) _ _ _ (((a1_2.size : Int) / 256) % 256) [.int .u8 (((a1_2.size : Int) / 256) % 256)] from rfl) (Reps.one (show Kd.M (Kd.int .u8) _ _ _ (((a1_2.size : Int)) % 256) [.int .u8 (((a1_2.size : Int)) % 256)] from rfl) (Reps.none _ _))));intro v381 w55 ho56 hb hg_ hnew_;clear hg_ hnew_;(first|rw [← Ny380.out] at ho56|(simp only [Int.reduceToNat] at ho56;rw [← Ny380.out] at ho56));have HO382:=zh (yy (Kd.R_new' (Kd.R_newM (M:=fun k_=>(P0_ k_∨w.heap.size≤k_)) ho56 jp (fun k_ h_ => .inr h_)) (Kd.R_lt jAC)) (zB jM));replace HO352:=zh (Kd.R_elder' jAC (Kd.R_base ho56) hb);replace BK349:=zh (cD BK349.out jq hb);replace HK:=zh (Kept.below (S:=(fun k_=>P0_ k_)) jg hb);replace HB:=zh (zC jM hb);clear hb ho56;obtain ⟨Ao58,co58,eo58⟩:=yk HO382.out;(first|subst eo58|(injection eo58 with f1_ f2_ f3_;have f4_:=f1_.symm;have f5_:=f3_.symm;clear f1_ f2_ f3_;subst f4_;subst f5_));refine hK.out _ _ ⟨(zz BK349.out 0).trans rfl,(zz BK349.out 1).trans rfl,(zz BK349.out 2).trans rfl⟩ (fun hHeld=>?_);clear hK K;refine norm_ (a':=?_) ?_ ?_;rotate_left
     ·
      show Act.put _ (some 43) _=_
      simp only [Act.put,zi,zj,zk,zG,zH]
      rfl
     refine one_ (i:=11) (N:=some 44) (bm_ 14 16) rfl rfl (one_of HT_.out jA) jB (fun K hK=>?_);refine Kd.R_append_rows_step (Kd.int .u8) (w0:=w0) w0.heap.size (by rfl) (.tmp 33) (.tmp 43) 33 5 (.int .u8 0) 1 rfl Try.underlying33 info5 rfl jB jH v351 y350 y380 _ _ _ (fun k_=>(P0_ k_∨w.heap.size≤k_)∧some k_≠(.slice Ao58 y380.length co58 : Value).ownBlock) (fun _=>False) rfl rfl ?aO ?aR (fun _ _ h=>h) (fun _ h=>h.elim) ?aF ?aB ?aS ?aL ?_;(case aR=>repeat (first|exact (yh HO382.out).2.2|(with_reducible refine Kd.C_alloc ?_ _)|(with_reducible refine Kd.C_drewN ?_ _)|(with_reducible refine Kd.C_drew ?_)))
     (case aB=>exact jM)
     (case aF=>exact (fun k_ hk=>⟨(.inr (Nat.le_trans jp hk)),Kd.fresh' (Kd.R_lt (by (with_reducible repeat (first|apply zm|apply zn|apply zo));exact HO382.out)) k_ hk⟩))
     (case aO=>exact jAC)
     (case aS=>exact (zB jM))
     (case aL=>have:=LMc48.out;omega)
     intro v384 w57 ho hb hg hat;rw [← Ny383.out] at ho;replace BK349:=zh (yw (g:=gb349) (o:=.cells #[.int .i64 a1_0,.int .i64 a1_1,.string a1_2] 25 (0,0)) jq hg (Kd.R_ne HO352.out BK349.out jB));replace HO382:=zh (Kd.R_after (ok:=(fun k_=>(P0_ k_∨w.heap.size≤k_))) (by (with_reducible repeat (first|apply zm|apply zn|apply zo));exact zM HO382.out (fun _ hk=>⟨hk.1.1,hk.2⟩)) hg hat);replace HB:=zh (hb);replace HK:=zh (yA (S:=(fun k_=>P0_ k_)) hg jg (fun k_ e_=>(HO352.out.1 k_ e_).1));have HO385:=zh (ho);clear HO352 ho hb hg hat;refine hK.out _ _ ⟨(zz BK349.out 0).trans rfl,(zz BK349.out 1).trans rfl,(zz BK349.out 2).trans rfl⟩ (fun hHeld=>?_);clear hK K;refine norm_ (a':=?_) ?_ ?_;rotate_left
     ·
      show Act.put _ (some 44) _=_
      simp only [Act.put,zi,zj,zk,zG,zH]
      rfl
     refine one_ (i:=14) (N:=some 47) (bm_ 15 16) rfl rfl (one_of HT_.out jA) jB (fun K hK=>?_);refine print_append_str_go (w0:=w0) w0.heap.size (by rfl) (.tmp 44) _ 33 9 5 rfl Try.underlying33 Try.underlying9 info5 v384 y383 a1_2 rfl rfl ?aO ?aB ?aS ?aL ?_;(case aB=>exact jM)
     (case aO=>exact (Kd.own_of_R (by (with_reducible repeat (first|apply zm|apply zn|apply zo));exact zM HO385.out (fun _ hk=>hk.1))))
     (case aS=>exact (zB jM))
     (case aL=>have:=LMc49.out;omega)
     intro v387 w59 ho0 hb hg hat;have ho:=Kd.R_of_own (h1:=fun _=>rfl) (ok:=(fun k_=>(P0_ k_∨w.heap.size≤k_))) ho0 (fun k_ e_=>hat.elim (fun h_=>(zM HO385.out (fun _ hk=>hk.1)).1 k_ (h_.symm.trans e_)) (fun ⟨b_,h_,hb_⟩=>(fun k_ hk=>(.inr (Nat.le_trans jp hk))) k_ (zU (h_.symm.trans e_) ▸ hb_)));clear ho0;rw [← Ny386.out] at ho;change Kd.R (Kd.int .u8) 5 w59 w0.heap.size (fun k_=>(P0_ k_∨w.heap.size≤k_)) v387 y386 at ho;replace BK349:=zh (yw (g:=gb349) (o:=.cells #[.int .i64 a1_0,.int .i64 a1_1,.string a1_2] 25 (0,0)) jq hg (Kd.R_ne HO385.out BK349.out jB));replace HB:=zh (hb);replace HK:=zh (yA (S:=(fun k_=>P0_ k_)) hg jg (fun k_ e_=>(HO385.out.1 k_ e_).1));have HO388:=zh (ho);clear HO385 ho hb hg hat;refine hK.out _ _ ⟨(zz BK349.out 0).trans rfl,(zz BK349.out 1).trans rfl,(zz BK349.out 2).trans rfl⟩ (fun hHeld=>?_);clear hK K;refine norm_ (a':=?_) ?_ ?_;rotate_left
     ·
      show Act.put _ (some 47) _=_
      simp only [Act.put,zi,zj,zk,zG,zH]
      rfl
     refine pure_ (i:=15) (N:=some 4) (v:=?_) (a':=?_) (bm_ 16 16) rfl rfl (any_of HT_.out jA) (fun _ _ _ h=>h) (Or.inl ⟨by rfl,?_⟩) ?_ ?_;rotate_left;exact jb;rotate_left;exact jc
     refine done_ (done_of HT_.out jA) ?_
     try go_wp2
     go_ret
     exact ⟨_,jF,by (with_reducible repeat (first|apply zm|apply zn|apply zo));exact HO388.out,jM,jg⟩
    rw [if_neg c49] at H;exact absurd H (by simp)
   rw [if_neg c48] at H;exact absurd H (by simp)
  rw [if_neg c47] at H;have c47b0 : (a1_0 == 5)=false:=zY.mpr c47;have c47b1 : (a1_0 != 5)=true:=zZ.mpr c47;obtain rfl:=zU H
  go_enter Try.func51,Try.ntmps51
  go_wp2_with (first|((with_reducible refine zK (N:=3) rfl ?_);refine zI ?hg (N:=3) ?hd (cs:=#[.int .i64 a1_0,.int .i64 a1_1,.string a1_2]) (t:=25) ?hr ?_;(case hd=>rfl);(case hg=>rfl);(case hr=>go_simp <;> rfl);intro gb349 hg w60 hbox hb;replace HO0:=zh (yg jAO hb);have BK349:=zh (hbox);have GW349:=zh ((jBA : w.heap.size≤gb349));replace HK:=zh (Kept.below (S:=(fun k_=>P0_ k_)) jBB hb);have GE349:=zh ((jBC : w0.heap.size≤gb349));replace HB:=zh (zC jG hb);clear hb hbox hg;obtain ⟨hcz61_0,hcz61_1,hcz61_2,hfz61_0,hfz61_1,hfz61_2⟩:=cB3 BK349.out)|((with_reducible refine yB (b:=.append) (xs:=#[.tmp 5,.tmp 9]) rfl ?_);at_builtin;refine Kd.R_append (Kd.int .u8) (w0:=w0) w0.heap.size rfl (.tmp 5) (.tmp 9) 33 5 (.int .u8 0) 1 rfl Try.underlying33 info5 rfl jB jH u9000_ l0 ((a1_0) % 256) [.int .u8 ((a1_0) % 256)] (fun k_=>(P0_ k_∨w.heap.size≤k_)) (fun _=>False) rfl rfl ?aP (fun _ hk=>hk.elim) ?aF ?aO ?aB ?aS ?aL ?_;(case aP=>exact rfl);(case aB=>exact jM);(case aF=>exact (fun k_ hk=>(.inr (Nat.le_trans jp hk))));(case aO=>exact jAO);(case aS=>exact (zB jM));(case aL=>have:=LMc3.out;omega);intro v351 w62 ho hb hg hat;rw [← Ny350.out] at ho;replace BK349:=zh (yw (g:=gb349) (o:=.cells #[.int .i64 a1_0,.int .i64 a1_1,.string a1_2] 25 (0,0)) jq hg (Kd.R_ne HO0.out BK349.out jB));replace HB:=zh (hb);replace HK:=zh (yA (S:=(fun k_=>P0_ k_)) hg jg (fun k_ e_=>(HO0.out.1 k_ e_)));have HO352:=zh (ho);clear HO0 ho hb hg hat;obtain ⟨hcz63_0,hcz63_1,hcz63_2,hfz63_0,hfz63_1,hfz63_2⟩:=cB3 BK349.out))
  go_ret
  exact ⟨_,jF,jAC,jM,jg⟩
 rw [if_neg c3] at H;exact absurd H (by simp)


def Fx.l0 : Nat→List Int→List (S25)→Int→Int→Option (Int×Int×ByteArray)
 | 0,_,_,_,_=>none
 | k+1,x3,x7,x8,x9=>if x9<x8 then (if 0≤x9 then (if x9<(x7.length : Int) then ((F02.f k x3 ((rd_T25 x7 x9).f0) ((rd_T25 x7 x9).f1) ((rd_T25 x7 x9).f2)).bind fun t572=>(Fx.l0 k t572 x7 x8 (wrap64 (x9+1)))) else (none)) else (none)) else (some (4,0,strOfNums x3))
def Fx.f (k : Nat) (l0 : List (S25)) : Option (Int×Int×ByteArray):=Fx.l0 k (([] : List Int)) l0 (l0.length : Int) 0
theorem Fx.mono_l : ∀ k,(∀ y0 y1 y2 y3,LeO (Fx.l0 k y0 y1 y2 y3) (Fx.l0 (k+1) y0 y1 y2 y3))
 | 0=>fun _ _ _ _ r h=>by simp [Fx.l0] at h
 | k+1=>by
  have ih0:=Fx.mono_l k;intro y0 y1 y2 y3;unfold Fx.l0
  repeat' first|(with_reducible first|exact ih0 _ _ _ _|exact F02.mono _ _ _ _ _|exact zQ _|exact zN _|refine zP ?_ ?_|refine zO ?_ (fun _=>?_))|refine zP ?_ ?_|refine zO ?_ (fun _=>?_)
theorem Fx.mono : ∀ a0 k,LeO (Fx.f k a0) (Fx.f (k+1) a0):=by
 intro a0 k;have ih0:=Fx.mono_l k;unfold Fx.f
 repeat' first|(with_reducible first|exact ih0 _ _ _ _|exact F02.mono _ _ _ _ _|exact zQ _|exact zN _|refine zP ?_ ?_|refine zO ?_ (fun _=>?_))|refine zP ?_ ?_|refine zO ?_ (fun _=>?_)
set_option maxHeartbeats 8000000 in
set_option maxRecDepth 100000 in
theorem Fx.calls (k : Nat) (A0 : Option Addr) (c0 : Nat) (l0 : List (S25)) (r1 : Int) (r2 : Int) (r3 : ByteArray) (w : World) (hr0 : Kd.C k25 w A0 l0.length l0) (hc0 : l0.length≤c0) (h : Fx.f k l0=some (r1,r2,r3)) :
  Calls Try.prog 34 #[.slice A0 l0.length c0] w fun e w' => e = .returned (.agg #[.int .i64 r1,.int .i64 r2,.string r3])∧Below w.heap.size w w':=by
 have hu25:=Try.underlying25;have HR0:=zh hr0;have HC0:=zh hc0;clear hr0 hc0;have HB:=zh (Below.refl w.heap.size w);have H : (Fx.l0 k (([] : List Int)) l0 (l0.length : Int) 0)=some (r1,r2,r3):=h;clear h;obtain ⟨y567,hy567⟩ : ∃ y_ : List Int,y_=(([] : List Int)):=⟨_,rfl⟩;replace H : (Fx.l0 k y567 l0 (l0.length : Int) 0)=some (r1,r2,r3):=by first|(rw [hy567];with_reducible exact H)|(have H2_:=(Option.bind_some _ _).symm.trans H;rw [hy567];with_reducible exact H2_)|(have H2_:=(Option.bind_some _ _).symm.trans H;with_reducible exact H2_)|with_reducible exact H|(rw [hy567];exact H)|exact H
 have Ny567:=zh hy567;clear hy567;have H':=zh H;clear H
 go_enter Try.func34,Try.ntmps34
 go_wp2_with (first|((with_reducible refine zK (N:=2) rfl ?_);refine zI ?hg (N:=2) ?hd (cs:=#[.int .i64 0,.int .i64 0,.string (⟨#[]⟩ : ByteArray)]) (t:=25) ?hr ?_;(case hd=>rfl);(case hg=>rfl);(case hr=>go_simp <;> rfl);intro gb566 hg w2 hbox hb;have BK566:=zh (hbox);have hH_:=cH jG hb hg;have GW566:=zh hH_.1;have GE566:=GW566;replace HB:=zh hH_.2;clear hb hbox hg hH_)|((with_reducible refine zK (N:=6) rfl ?_);refine Kd.R_lit (Kd.int .u8) _ 5 ?hg (N:=6) ?hd (xs:=([] : List Int)) (inner:=[]) (ok:=fun _=>True) (okp:=fun _=>True) ?hr ?hp (fun _ hk=>hk) trivial (Below.refl _ _) (ye _) (by simp) ?_;(case hd=>rfl);(case hg=>rfl);(case hr=>go_simp <;> rfl);(case hp=>exact (Reps.none _ _));intro v568 w3 ho4 hb hg_ hnew_;clear hg_ hnew_;(first|rw [← Ny567.out] at ho4|(simp only [Int.reduceToNat] at ho4;rw [← Ny567.out] at ho4));have HO569:=zh (yy ho4 (zB jBR));replace BK566:=zh (cD BK566.out jBD hb);replace HB:=zh (zC jBR hb);clear hb ho4))
 go_loopg [3,9] k (fun kq v3 v9 w' => ∃ (x3_1 : List Int) (x9_1 : Int),v9 = .int .i64 x9_1∧Aside0 (Fx.l0 kq x3_1 l0 (l0.length : Int) x9_1=some (r1,r2,r3))∧Aside0 (kq≤k)∧Aside0 (Kd.R (Kd.int .u8) 5 w' w.heap.size (fun _=>True) v3 x3_1)∧Aside0 (w'.heap[gb566]? = some (.cells #[.int .i64 0,.int .i64 0,.string (⟨#[]⟩ : ByteArray)] 25 (0,0)))∧Aside0 (Below w.heap.size w w'))
 case atStart=>exact ⟨(y567),(0),jC,H',⟨ye _⟩,⟨by (with_reducible repeat (first|apply zm|apply zn|apply zo));exact HO569.out⟩,⟨jBD⟩,⟨jBR⟩⟩
 case round =>
  clear H'
  try clear p2
  try clear c3
  obtain ⟨x3_1,x9_1,rfl,HA,HK1,HO_3,BK566,HB⟩:=hrel
  cases gk with
  | zero=>exact absurd HA.out (by simp [Fx.l0])
  | succ k1 =>
   have H:=HA.out;clear HA;simp only [Fx.l0] at H
   by_cases c5 : x9_1<(l0.length : Int)
   ·
    rw [if_pos c5] at H
    have c5b0 : decide (x9_1<(l0.length : Int))=true:=decide_eq_true c5;clear c5
    by_cases c6 : 0≤x9_1
    ·
     rw [if_pos c6] at H
     have c6b0 : decide (0≤x9_1)=true:=decide_eq_true c6;clear c6
     by_cases c7 : x9_1<(l0.length : Int)
     ·
      rw [if_pos c7] at H
      have c7b0 : decide (x9_1<(l0.length : Int))=true:=decide_eq_true c7;clear c7;replace H:=zT.mp H;obtain ⟨t572,A80,H⟩:=H;have A8:=zh A80;clear A80;have H':=zh H;clear H;have p570 : 0≤(x9_1 : Int):=zy jE;have q570 : x9_1<(l0.length : Int):=zy jE;obtain ⟨ad570,e570,hx570_0,hx570_1,hx570_2⟩:=at_T25 HR0.out x9_1 p570 q570
      cases e570
      replace hx570_0:=(HB.out.cell (zl w _ hx570_0)).trans hx570_0;replace hx570_1:=(HB.out.cell (zl w _ hx570_1)).trans hx570_1;replace hx570_2:=(HB.out.cell (zl w _ hx570_2)).trans hx570_2;replace p570:=eq_true p570;replace q570:=eq_true q570
      go_wp2_with (first|((with_reducible refine zK (N:=5) rfl ?_);refine zI ?hg (N:=5) ?hd (cs:=#[.int .i64 0,.int .i64 0,.string (⟨#[]⟩ : ByteArray)]) (t:=25) ?hr ?_;(case hd=>rfl);(case hg=>rfl);(case hr=>go_simp <;> rfl);intro gb571 hg w9 hbox hb;replace HO_3:=zh (yg jBQ hb);have BK571:=zh (hbox);have hH_:=cH jBR hb hg;have GW571:=zh hH_.1;have GE571:=GW571;replace HB:=zh hH_.2;have NB566_571:=zh ((by rw [hg];exact yc (yi (g:=gb566) (o:=.cells #[.int .i64 0,.int .i64 0,.string (⟨#[]⟩ : ByteArray)] 25 (0,0)) jBD) : gb566≠gb571));have NB571_566:=zh NB566_571.out.symm;replace BK566:=zh (cD BK566.out jBD hb);clear hb hbox hg hH_;have hnb10:=NB571_566.out;have hnc10:=NB566_571.out;obtain ⟨hcz11_0,hcz11_1,hcz11_2,hfz11_0,hfz11_1,hfz11_2⟩:=cB3 BK571.out)|((with_reducible refine gate_store (t:=25) (p:=5) rfl ?_);refine store_event (t:=25) (p:=5) (v:=?vo_w12) (w1:=(((w9.setCell ⟨gb571,0,none⟩ (.int .i64 ((rd_T25 l0 x9_1).f0))).setCell ⟨gb571,1,none⟩ (.int .i64 ((rd_T25 l0 x9_1).f1))).setCell ⟨gb571,2,none⟩ (.string ((rd_T25 l0 x9_1).f2)))) ?hg ?ho ?hn ?hr ?_;(case ho=>rfl);(case hg=>rfl);(case hn=>rfl);(case hr=>go_simp <;> rfl);intro w12 hw;replace HO_3 : Aside0 (Kd.R (Kd.int .u8) 5 w12 w.heap.size (fun _=>True) u3 x3_1):=⟨(by rw [hw];exact (by (with_reducible repeat (first|apply zm|apply zn|apply zo));exact zM (zE (p:=⟨gb571,2,none⟩) (zE (p:=⟨gb571,1,none⟩) (zE (p:=⟨gb571,0,none⟩) (yf HO_3.out BK571.out jB) (fun _ hk=>hk.2) (.int .i64 ((rd_T25 l0 x9_1).f0))) (fun _ hk=>hk.2) (.int .i64 ((rd_T25 l0 x9_1).f1))) (fun _ hk=>hk.2) (.string ((rd_T25 l0 x9_1).f2))) (fun _ hk=>trivial)))⟩;replace BK566 : Aside0 (w12.heap[gb566]? = some (.cells #[.int .i64 0,.int .i64 0,.string (⟨#[]⟩ : ByteArray)] 25 (0,0))):=⟨(by rw [hw];exact (by (with_reducible repeat first|apply ze|apply zf|apply zg);refine cS3 ?_ NB566_571.out;(with_reducible repeat first|apply ze|apply zf|apply zg);exact BK566.out))⟩;replace BK571 : Aside0 (w12.heap[gb571]? = some (.cells #[.int .i64 ((rd_T25 l0 x9_1).f0),.int .i64 ((rd_T25 l0 x9_1).f1),.string ((rd_T25 l0 x9_1).f2)] 25 (0,0))):=⟨(by rw [hw];exact (by (with_reducible repeat first|apply ze|apply zf|apply zg);refine zL (cs:=#[.int .i64 ((rd_T25 l0 x9_1).f0),.int .i64 ((rd_T25 l0 x9_1).f1),.string (⟨#[]⟩ : ByteArray)]) ?_ 2 _ rfl;(with_reducible repeat first|apply ze|apply zf|apply zg);refine zL (cs:=#[.int .i64 ((rd_T25 l0 x9_1).f0),.int .i64 0,.string (⟨#[]⟩ : ByteArray)]) ?_ 1 _ rfl;(with_reducible repeat first|apply ze|apply zf|apply zg);refine zL (cs:=#[.int .i64 0,.int .i64 0,.string (⟨#[]⟩ : ByteArray)]) ?_ 0 _ rfl;(with_reducible repeat first|apply ze|apply zf|apply zg);exact BK571.out))⟩;replace HB : Aside0 (Below w.heap.size w w12):=⟨(by rw [hw];exact jDC)⟩;clear hw;obtain ⟨hcz13_0,hcz13_1,hcz13_2,hfz13_0,hfz13_1,hfz13_2⟩:=cB3 BK571.out;obtain ⟨Ao14,co14,eo14⟩:=yk HO_3.out;subst eo14)|((with_reducible refine zJ (f:=51) rfl ?_);refine yj (some 15) rfl rfl Try.func51 jA rfl #[.slice Ao14 x3_1.length co14,.agg #[.int .i64 ((rd_T25 l0 x9_1).f0),.int .i64 ((rd_T25 l0 x9_1).f1),.string ((rd_T25 l0 x9_1).f2)]] rfl jD ?_;(with_reducible refine (F02.calls k1  (fun k_=>some k_=(.slice Ao14 x3_1.length co14 : Value).ownBlock) (.slice Ao14 x3_1.length co14) x3_1 ((rd_T25 l0 x9_1).f0) ((rd_T25 l0 x9_1).f1) ((rd_T25 l0 x9_1).f2) t572 w _ ?side1 ?side2 A8.out).mono ?_);(case side1=>repeat (with_reducible first|exact HB.out|apply za|apply zb|apply zc|refine zd ?_ GE566.out|refine zd ?_ GE571.out));(case side2=>exact Kd.R_tight rfl HO_3.out);rintro e w15 ⟨v573,rfl,ho0,hb,hkp⟩;refine ⟨_,rfl,?_⟩;replace BK566:=zh (blk_kept jBD hkp (fun hs_=>(fun e_=>(Kd.R_ne HO_3.out BK566.out jB) e_) hs_));replace BK571:=zh (blk_kept (by (with_reducible repeat first|apply ze|apply zf|apply zg);exact BK571.out) hkp (fun hs_=>(fun e_=>(Kd.R_ne HO_3.out BK571.out jB) e_) hs_));have HO574:=zh (zM (ok':=fun k_=>True) ho0 (fun k_ hk_=>trivial));replace HB:=zh (hb);clear HO_3;(try clear hb);(try clear hkp);(try clear ho0)))
      go_roundg k1
      case measure=>have:=HK1.out;omega
      case rel=>exact ⟨(t572),(wrap64 (x9_1+1)),jC,H',⟨jZ⟩,⟨by (with_reducible repeat (first|apply zm|apply zn|apply zo));exact HO574.out⟩,⟨jBD⟩,⟨jDC⟩⟩
     rw [if_neg c7] at H;exact absurd H (by simp)
    rw [if_neg c6] at H;exact absurd H (by simp)
   rw [if_neg c5] at H;have c5b0 : decide (x9_1<(l0.length : Int))=false:=decide_eq_false c5;clear c5;simp only [Option.some.injEq,Prod.mk.injEq] at H;obtain ⟨rfl,rfl,rfl⟩:=H;have hcv16:=own_string (P:=Try.prog) Try.underlying33 Try.underlying5 Try.underlying9 (Kd.own_of_R HO_3.out);obtain ⟨hcz17_0,hcz17_1,hcz17_2,hfz17_0,hfz17_1,hfz17_2⟩:=cB3 BK566.out
   go_wp2
   refine bodyPost_ret (results_cell_row rfl _ _ gb566 25 #[.int .i64 4,.int .i64 0,.string (strOfNums x3_1)] (0,0) _ rfl (by (with_reducible repeat first|apply ze|apply zf|apply zg);refine zL (cs:=#[.int .i64 4,.int .i64 0,.string (⟨#[]⟩ : ByteArray)]) ?_ 2 _ rfl;(with_reducible repeat first|apply ze|apply zf|apply zg);refine zL (cs:=#[.int .i64 4,.int .i64 0,.string (⟨#[]⟩ : ByteArray)]) ?_ 1 _ rfl;(with_reducible repeat first|apply ze|apply zf|apply zg);refine zL (cs:=#[.int .i64 0,.int .i64 0,.string (⟨#[]⟩ : ByteArray)]) ?_ 0 _ rfl;(with_reducible repeat first|apply ze|apply zf|apply zg);exact BK566.out) Try.underlying25 rfl jA) rfl ?_;exact ⟨jF,jBR⟩


def F09.f (k : Nat) (l0 : List (S25)) : Option (Int×Int×ByteArray×Int):=if (l0.length : Int) > 4096 then (some (0,0,(⟨#[]⟩ : ByteArray),2)) else (if (l0.length : Int) > 300 then (some (0,0,(⟨#[]⟩ : ByteArray),10)) else ((F06.f k l0).bind fun t576=>(if t576=true then ((Fx.f k l0).bind fun bt577=>((F0c.f k bt577.1 bt577.2.1 bt577.2.2).bind fun bt580=>(some (bt580.1,bt580.2.1,bt580.2.2.1,bt580.2.2.2)))) else (some (0,0,(⟨#[]⟩ : ByteArray),1)))))
theorem F09.mono : ∀ a0 k,LeO (F09.f k a0) (F09.f (k+1) a0):=by
 intro a0 k;unfold F09.f
 repeat' first|(with_reducible first|exact F0c.mono _ _ _ _|exact F06.mono _ _|exact Fx.mono _ _|exact zQ _|exact zN _|refine zP ?_ ?_|refine zO ?_ (fun _=>?_))|refine zP ?_ ?_|refine zO ?_ (fun _=>?_)
set_option maxHeartbeats 8000000 in
set_option maxRecDepth 100000 in
theorem F09.calls (k : Nat) (A0 : Option Addr) (c0 : Nat) (l0 : List (S25)) (r1 : Int) (r2 : Int) (r3 : ByteArray) (r4 : Int) (w : World) (hr0 : Kd.C k25 w A0 l0.length l0) (hc0 : l0.length≤c0) (h : F09.f k l0=some (r1,r2,r3,r4)) :
  Calls Try.prog 13 #[.slice A0 l0.length c0] w fun e w' => e = .returned (.tuple #[.agg #[.int .i64 r1,.int .i64 r2,.string r3],.int .i64 r4])∧Below w.heap.size w w':=by
 have hu25:=Try.underlying25;have HR0:=zh hr0;have HC0:=zh hc0;clear hr0 hc0;have HB:=zh (Below.refl w.heap.size w);have H : (if (l0.length : Int) > 4096 then (some (0,0,(⟨#[]⟩ : ByteArray),2)) else (if (l0.length : Int) > 300 then (some (0,0,(⟨#[]⟩ : ByteArray),10)) else ((F06.f k l0).bind fun t576=>(if t576=true then ((Fx.f k l0).bind fun bt577=>((F0c.f k bt577.1 bt577.2.1 bt577.2.2).bind fun bt580=>(some (bt580.1,bt580.2.1,bt580.2.2.1,bt580.2.2.2)))) else (some (0,0,(⟨#[]⟩ : ByteArray),1))))))=some (r1,r2,r3,r4):=h;clear h
 by_cases c2 : (l0.length : Int) > 4096
 ·
  rw [if_pos c2] at H
  have c2b0 : decide (4096<(l0.length : Int))=true:=decide_eq_true c2;have c2b1 : decide (4096<l0.length)=true:=decide_eq_true jH;clear c2;simp only [Option.some.injEq,Prod.mk.injEq] at H;obtain ⟨rfl,rfl,rfl,rfl⟩:=H
  go_enter Try.func13,Try.ntmps13
  go_wp2_with (first|((with_reducible refine zK (N:=2) rfl ?_);refine zI ?hg (N:=2) ?hd (cs:=#[.int .i64 0,.int .i64 0,.string (⟨#[]⟩ : ByteArray)]) (t:=25) ?hr ?_;(case hd=>rfl);(case hg=>rfl);(case hr=>go_simp <;> rfl);intro gb575 hg w3 hbox hb;have BK575:=zh (hbox);have hH_:=cH jG hb hg;have GW575:=zh hH_.1;have GE575:=GW575;replace HB:=zh hH_.2;clear hb hbox hg hH_;obtain ⟨hcz4_0,hcz4_1,hcz4_2,hfz4_0,hfz4_1,hfz4_2⟩:=cB3 BK575.out))
  refine bodyPost_ret (results_ct rfl _ _ gb575 25 #[.int .i64 0,.int .i64 0,.string (⟨#[]⟩ : ByteArray)] (0,0) _ rfl jCP Try.underlying25 rfl jA) rfl ?_;exact ⟨jF,jAo⟩
 rw [if_neg c2] at H;have c2b0 : decide (4096<(l0.length : Int))=false:=decide_eq_false c2;have c2b1 : decide (4096<l0.length)=false:=decide_eq_false jH;clear c2
 by_cases c5 : (l0.length : Int) > 300
 ·
  rw [if_pos c5] at H
  have c5b0 : decide (300<(l0.length : Int))=true:=decide_eq_true c5;have c5b1 : decide (300<l0.length)=true:=decide_eq_true jH;clear c5;simp only [Option.some.injEq,Prod.mk.injEq] at H;obtain ⟨rfl,rfl,rfl,rfl⟩:=H
  go_enter Try.func13,Try.ntmps13
  go_wp2_with (first|((with_reducible refine zK (N:=2) rfl ?_);refine zI ?hg (N:=2) ?hd (cs:=#[.int .i64 0,.int .i64 0,.string (⟨#[]⟩ : ByteArray)]) (t:=25) ?hr ?_;(case hd=>rfl);(case hg=>rfl);(case hr=>go_simp <;> rfl);intro gb575 hg w6 hbox hb;have BK575:=zh (hbox);have hH_:=cH jG hb hg;have GW575:=zh hH_.1;have GE575:=GW575;replace HB:=zh hH_.2;clear hb hbox hg hH_;obtain ⟨hcz7_0,hcz7_1,hcz7_2,hfz7_0,hfz7_1,hfz7_2⟩:=cB3 BK575.out))
  refine bodyPost_ret (results_ct rfl _ _ gb575 25 #[.int .i64 0,.int .i64 0,.string (⟨#[]⟩ : ByteArray)] (0,0) _ rfl jCP Try.underlying25 rfl jA) rfl ?_;exact ⟨jF,jAo⟩
 rw [if_neg c5] at H;have c5b0 : decide (300<(l0.length : Int))=false:=decide_eq_false c5;have c5b1 : decide (300<l0.length)=false:=decide_eq_false jH;clear c5;replace H:=zT.mp H;obtain ⟨t576,A80,H⟩:=H;have A8:=zh A80;clear A80
 by_cases c9 : t576=true
 ·
  subst c9
  rw [if_pos rfl] at H;replace H:=zT.mp H;obtain ⟨⟨t577,t578,t579⟩,A100,H⟩:=H;have A10:=zh A100;clear A100;replace H:=zT.mp H;obtain ⟨⟨t580,t581,t582,t583⟩,A110,H⟩:=H;have A11:=zh A110;clear A110;simp only [Option.some.injEq,Prod.mk.injEq] at H;obtain ⟨rfl,rfl,rfl,rfl⟩:=H
  go_enter Try.func13,Try.ntmps13
  go_wp2_with (first|((with_reducible refine zK (N:=2) rfl ?_);refine zI ?hg (N:=2) ?hd (cs:=#[.int .i64 0,.int .i64 0,.string (⟨#[]⟩ : ByteArray)]) (t:=25) ?hr ?_;(case hd=>rfl);(case hg=>rfl);(case hr=>go_simp <;> rfl);intro gb575 hg w12 hbox hb;have BK575:=zh (hbox);have hH_:=cH jG hb hg;have GW575:=zh hH_.1;have GE575:=GW575;replace HB:=zh hH_.2;clear hb hbox hg hH_)|((with_reducible refine zJ (f:=33) rfl ?_);refine yj (some 16) rfl rfl Try.func33 jA rfl #[.slice A0 l0.length c0] rfl jD ?_;(with_reducible refine (F06.calls k  _ _ l0 true _ ?side1 ?side2 A8.out).mono ?_);(case side1=>repeat (first|exact (Kd.C_below HR0.out HB.out)|(with_reducible refine Kd.C_alloc ?_ _)|(with_reducible refine Kd.C_drewN ?_ _)|(with_reducible refine Kd.C_drew ?_)));(case side2=>exact HC0.out);rintro e w13 ⟨rfl,hb⟩;refine ⟨_,rfl,?_⟩;replace BK575:=zh (cD BK575.out jBm hb);replace HB:=zh (zC jAo hb);(try clear hb);(try clear hb2);(try clear hk);(try clear hi))|((with_reducible refine zJ (f:=34) rfl ?_);refine yj (some 20) rfl rfl Try.func34 jA rfl #[.slice A0 l0.length c0] rfl jD ?_;(with_reducible refine (Fx.calls k  _ _ l0 t577 t578 t579 _ ?side1 ?side2 A10.out).mono ?_);(case side1=>repeat (first|exact (Kd.C_below HR0.out HB.out)|(with_reducible refine Kd.C_alloc ?_ _)|(with_reducible refine Kd.C_drewN ?_ _)|(with_reducible refine Kd.C_drew ?_)));(case side2=>exact HC0.out);rintro e w14 ⟨rfl,hb⟩;refine ⟨_,rfl,?_⟩;replace BK575:=zh (cD BK575.out jBm hb);replace HB:=zh (zC jAo hb);(try clear hb);(try clear hb2);(try clear hk);(try clear hi))|((with_reducible refine zJ (f:=28) rfl ?_);refine yj (some 21) rfl rfl Try.func28 jA rfl #[.agg #[.int .i64 t577,.int .i64 t578,.string t579]] rfl jD ?_;(with_reducible refine (F0c.calls k  t577 t578 t579 t580 t581 t582 t583 _ A11.out).mono ?_);rintro e w15 ⟨rfl,hb⟩;refine ⟨_,rfl,?_⟩;replace BK575:=zh (cD BK575.out jBm hb);replace HB:=zh (zC jAo hb);(try clear hb);(try clear hb2);(try clear hk);(try clear hi);obtain ⟨hcz16_0,hcz16_1,hcz16_2,hfz16_0,hfz16_1,hfz16_2⟩:=cB3 BK575.out))
  refine bodyPost_ret (results_ct rfl _ _ gb575 25 #[.int .i64 t580,.int .i64 t581,.string t582] (0,0) _ rfl (by (with_reducible repeat first|apply ze|apply zf|apply zg);refine zL (cs:=#[.int .i64 t580,.int .i64 t581,.string (⟨#[]⟩ : ByteArray)]) ?_ 2 _ rfl;(with_reducible repeat first|apply ze|apply zf|apply zg);refine zL (cs:=#[.int .i64 t580,.int .i64 0,.string (⟨#[]⟩ : ByteArray)]) ?_ 1 _ rfl;(with_reducible repeat first|apply ze|apply zf|apply zg);refine zL (cs:=#[.int .i64 0,.int .i64 0,.string (⟨#[]⟩ : ByteArray)]) ?_ 0 _ rfl;(with_reducible repeat first|apply ze|apply zf|apply zg);exact BK575.out) Try.underlying25 rfl jA) rfl ?_;exact ⟨jF,jAo⟩
 replace c9:=yb.mpr c9;subst c9;rw [if_neg (show ¬ (false=true) by decide)] at H;simp only [Option.some.injEq,Prod.mk.injEq] at H;obtain ⟨rfl,rfl,rfl,rfl⟩:=H
 go_enter Try.func13,Try.ntmps13
 go_wp2_with (first|((with_reducible refine zK (N:=2) rfl ?_);refine zI ?hg (N:=2) ?hd (cs:=#[.int .i64 0,.int .i64 0,.string (⟨#[]⟩ : ByteArray)]) (t:=25) ?hr ?_;(case hd=>rfl);(case hg=>rfl);(case hr=>go_simp <;> rfl);intro gb575 hg w17 hbox hb;have BK575:=zh (hbox);have hH_:=cH jG hb hg;have GW575:=zh hH_.1;have GE575:=GW575;replace HB:=zh hH_.2;clear hb hbox hg hH_)|((with_reducible refine zJ (f:=33) rfl ?_);refine yj (some 16) rfl rfl Try.func33 jA rfl #[.slice A0 l0.length c0] rfl jD ?_;(with_reducible refine (F06.calls k  _ _ l0 false _ ?side1 ?side2 A8.out).mono ?_);(case side1=>repeat (first|exact (Kd.C_below HR0.out HB.out)|(with_reducible refine Kd.C_alloc ?_ _)|(with_reducible refine Kd.C_drewN ?_ _)|(with_reducible refine Kd.C_drew ?_)));(case side2=>exact HC0.out);rintro e w18 ⟨rfl,hb⟩;refine ⟨_,rfl,?_⟩;replace BK575:=zh (cD BK575.out jBm hb);replace HB:=zh (zC jAo hb);(try clear hb);(try clear hb2);(try clear hk);(try clear hi);obtain ⟨hcz19_0,hcz19_1,hcz19_2,hfz19_0,hfz19_1,hfz19_2⟩:=cB3 BK575.out))
 refine bodyPost_ret (results_ct rfl _ _ gb575 25 #[.int .i64 0,.int .i64 0,.string (⟨#[]⟩ : ByteArray)] (0,0) _ rfl jCP Try.underlying25 rfl jA) rfl ?_;exact ⟨jF,jAo⟩


def F0g.f (k : Nat) (a0_0 : Int) (a0_1 : Int) (a0_2 : ByteArray) : Option (Int×Int×ByteArray×Int):=if (a0_2.size : Int) > 300 then (some (0,0,(⟨#[]⟩ : ByteArray),10)) else ((Fr.f k a0_0 a0_1 a0_2).bind fun t173=>(if t173=true then (some (a0_0,a0_1,a0_2,0)) else (some (0,0,(⟨#[]⟩ : ByteArray),9))))
theorem F0g.mono : ∀ a0 a1 a2 k,LeO (F0g.f k a0 a1 a2) (F0g.f (k+1) a0 a1 a2):=by
 intro a0 a1 a2 k;unfold F0g.f
 repeat' first|(with_reducible first|exact Fr.mono _ _ _ _|exact zQ _|exact zN _|refine zP ?_ ?_|refine zO ?_ (fun _=>?_))|refine zP ?_ ?_|refine zO ?_ (fun _=>?_)
set_option maxHeartbeats 8000000 in
set_option maxRecDepth 100000 in
theorem F0g.calls (k : Nat) (a0_0 : Int) (a0_1 : Int) (a0_2 : ByteArray) (r1 : Int) (r2 : Int) (r3 : ByteArray) (r4 : Int) (w : World) (h : F0g.f k a0_0 a0_1 a0_2=some (r1,r2,r3,r4)) :
  Calls Try.prog 21 #[.agg #[.int .i64 a0_0,.int .i64 a0_1,.string a0_2]] w fun e w' => e = .returned (.tuple #[.agg #[.int .i64 r1,.int .i64 r2,.string r3],.int .i64 r4])∧Below w.heap.size w w':=by
 have hu25:=Try.underlying25;have HB:=zh (Below.refl w.heap.size w);have H : (if (a0_2.size : Int) > 300 then (some (0,0,(⟨#[]⟩ : ByteArray),10)) else ((Fr.f k a0_0 a0_1 a0_2).bind fun t173=>(if t173=true then (some (a0_0,a0_1,a0_2,0)) else (some (0,0,(⟨#[]⟩ : ByteArray),9)))))=some (r1,r2,r3,r4):=h;clear h
 by_cases c2 : (a0_2.size : Int) > 300
 ·
  rw [if_pos c2] at H
  have c2b0 : decide (300<(a0_2.size : Int))=true:=decide_eq_true c2;have c2b1 : decide (300<a0_2.size)=true:=decide_eq_true jH;clear c2;simp only [Option.some.injEq,Prod.mk.injEq] at H;obtain ⟨rfl,rfl,rfl,rfl⟩:=H
  go_enter Try.func21,Try.ntmps21
  go_wp2_with (first|((with_reducible refine zK (N:=1) rfl ?_);refine zI ?hg (N:=1) ?hd (cs:=#[.int .i64 a0_0,.int .i64 a0_1,.string a0_2]) (t:=25) ?hr ?_;(case hd=>rfl);(case hg=>rfl);(case hr=>go_simp <;> rfl);intro gb171 hg w3 hbox hb;have BK171:=zh (hbox);have hH_:=cH jG hb hg;have GW171:=zh hH_.1;have GE171:=GW171;replace HB:=zh hH_.2;clear hb hbox hg hH_)|((with_reducible refine zK (N:=2) rfl ?_);refine zI ?hg (N:=2) ?hd (cs:=#[.int .i64 0,.int .i64 0,.string (⟨#[]⟩ : ByteArray)]) (t:=25) ?hr ?_;(case hd=>rfl);(case hg=>rfl);(case hr=>go_simp <;> rfl);intro gb172 hg w4 hbox hb;have BK172:=zh (hbox);have hH_:=cH jCQ hb hg;have GW172:=zh hH_.1;have GE172:=GW172;replace HB:=zh hH_.2;have NB171_172:=zh ((jCR : gb171≠gb172));have NB172_171:=zh NB171_172.out.symm;replace BK171:=zh (cD BK171.out jBE hb);clear hb hbox hg hH_;have hnb5:=NB171_172.out;have hnc5:=NB172_171.out;obtain ⟨hcz6_0,hcz6_1,hcz6_2,hfz6_0,hfz6_1,hfz6_2⟩:=cB3 BK171.out;obtain ⟨hcz7_0,hcz7_1,hcz7_2,hfz7_0,hfz7_1,hfz7_2⟩:=cB3 BK172.out))
  refine bodyPost_ret (results_ct rfl _ _ gb172 25 #[.int .i64 0,.int .i64 0,.string (⟨#[]⟩ : ByteArray)] (0,0) _ rfl jDD Try.underlying25 rfl jA) rfl ?_;exact ⟨jF,jBS⟩
 rw [if_neg c2] at H;have c2b0 : decide (300<(a0_2.size : Int))=false:=decide_eq_false c2;have c2b1 : decide (300<a0_2.size)=false:=decide_eq_false jH;clear c2;replace H:=zT.mp H;obtain ⟨t173,A80,H⟩:=H;have A8:=zh A80;clear A80
 by_cases c9 : t173=true
 ·
  subst c9
  rw [if_pos rfl] at H;simp only [Option.some.injEq,Prod.mk.injEq] at H;obtain ⟨rfl,rfl,rfl,rfl⟩:=H
  go_enter Try.func21,Try.ntmps21
  go_wp2_with (first|((with_reducible refine zK (N:=1) rfl ?_);refine zI ?hg (N:=1) ?hd (cs:=#[.int .i64 a0_0,.int .i64 a0_1,.string a0_2]) (t:=25) ?hr ?_;(case hd=>rfl);(case hg=>rfl);(case hr=>go_simp <;> rfl);intro gb171 hg w10 hbox hb;have BK171:=zh (hbox);have hH_:=cH jG hb hg;have GW171:=zh hH_.1;have GE171:=GW171;replace HB:=zh hH_.2;clear hb hbox hg hH_)|((with_reducible refine zK (N:=2) rfl ?_);refine zI ?hg (N:=2) ?hd (cs:=#[.int .i64 0,.int .i64 0,.string (⟨#[]⟩ : ByteArray)]) (t:=25) ?hr ?_;(case hd=>rfl);(case hg=>rfl);(case hr=>go_simp <;> rfl);intro gb172 hg w11 hbox hb;have BK172:=zh (hbox);have hH_:=cH jCQ hb hg;have GW172:=zh hH_.1;have GE172:=GW172;replace HB:=zh hH_.2;have NB171_172:=zh ((jCR : gb171≠gb172));have NB172_171:=zh NB171_172.out.symm;replace BK171:=zh (cD BK171.out jBE hb);clear hb hbox hg hH_;have hnb12:=NB171_172.out;have hnc12:=NB172_171.out;obtain ⟨hcz13_0,hcz13_1,hcz13_2,hfz13_0,hfz13_1,hfz13_2⟩:=cB3 BK171.out)|((with_reducible refine zJ (f:=20) rfl ?_);refine yj (some 10) rfl rfl Try.func20 jA rfl #[.agg #[.int .i64 a0_0,.int .i64 a0_1,.string a0_2]] rfl jD ?_;(with_reducible refine (Fr.calls k  a0_0 a0_1 a0_2 true _ A8.out).mono ?_);rintro e w14 ⟨rfl,hb⟩;refine ⟨_,rfl,?_⟩;replace BK171:=zh (cD BK171.out jBE hb);replace BK172:=zh (cD BK172.out jDE hb);replace HB:=zh (zC jBS hb);(try clear hb);(try clear hb2);(try clear hk);(try clear hi);obtain ⟨hcz15_0,hcz15_1,hcz15_2,hfz15_0,hfz15_1,hfz15_2⟩:=cB3 BK171.out;obtain ⟨hcz16_0,hcz16_1,hcz16_2,hfz16_0,hfz16_1,hfz16_2⟩:=cB3 BK172.out))
  refine bodyPost_ret (results_ct rfl _ _ gb172 25 #[.int .i64 a0_0,.int .i64 a0_1,.string a0_2] (0,0) _ rfl (by (with_reducible repeat first|apply ze|apply zf|apply zg);refine zL (cs:=#[.int .i64 a0_0,.int .i64 a0_1,.string (⟨#[]⟩ : ByteArray)]) ?_ 2 _ rfl;(with_reducible repeat first|apply ze|apply zf|apply zg);refine zL (cs:=#[.int .i64 a0_0,.int .i64 0,.string (⟨#[]⟩ : ByteArray)]) ?_ 1 _ rfl;(with_reducible repeat first|apply ze|apply zf|apply zg);refine zL (cs:=#[.int .i64 0,.int .i64 0,.string (⟨#[]⟩ : ByteArray)]) ?_ 0 _ rfl;(with_reducible repeat first|apply ze|apply zf|apply zg);exact BK172.out) Try.underlying25 rfl jA) rfl ?_;exact ⟨jF,jBS⟩
 replace c9:=yb.mpr c9;subst c9;rw [if_neg (show ¬ (false=true) by decide)] at H;simp only [Option.some.injEq,Prod.mk.injEq] at H;obtain ⟨rfl,rfl,rfl,rfl⟩:=H
 go_enter Try.func21,Try.ntmps21
 go_wp2_with (first|((with_reducible refine zK (N:=1) rfl ?_);refine zI ?hg (N:=1) ?hd (cs:=#[.int .i64 a0_0,.int .i64 a0_1,.string a0_2]) (t:=25) ?hr ?_;(case hd=>rfl);(case hg=>rfl);(case hr=>go_simp <;> rfl);intro gb171 hg w17 hbox hb;have BK171:=zh (hbox);have hH_:=cH jG hb hg;have GW171:=zh hH_.1;have GE171:=GW171;replace HB:=zh hH_.2;clear hb hbox hg hH_)|((with_reducible refine zK (N:=2) rfl ?_);refine zI ?hg (N:=2) ?hd (cs:=#[.int .i64 0,.int .i64 0,.string (⟨#[]⟩ : ByteArray)]) (t:=25) ?hr ?_;(case hd=>rfl);(case hg=>rfl);(case hr=>go_simp <;> rfl);intro gb172 hg w18 hbox hb;have BK172:=zh (hbox);have hH_:=cH jCQ hb hg;have GW172:=zh hH_.1;have GE172:=GW172;replace HB:=zh hH_.2;have NB171_172:=zh ((jCR : gb171≠gb172));have NB172_171:=zh NB171_172.out.symm;replace BK171:=zh (cD BK171.out jBE hb);clear hb hbox hg hH_;have hnb19:=NB171_172.out;have hnc19:=NB172_171.out;obtain ⟨hcz20_0,hcz20_1,hcz20_2,hfz20_0,hfz20_1,hfz20_2⟩:=cB3 BK171.out)|((with_reducible refine zJ (f:=20) rfl ?_);refine yj (some 10) rfl rfl Try.func20 jA rfl #[.agg #[.int .i64 a0_0,.int .i64 a0_1,.string a0_2]] rfl jD ?_;(with_reducible refine (Fr.calls k  a0_0 a0_1 a0_2 false _ A8.out).mono ?_);rintro e w21 ⟨rfl,hb⟩;refine ⟨_,rfl,?_⟩;replace BK171:=zh (cD BK171.out jBE hb);replace BK172:=zh (cD BK172.out jDE hb);replace HB:=zh (zC jBS hb);(try clear hb);(try clear hb2);(try clear hk);(try clear hi);obtain ⟨hcz22_0,hcz22_1,hcz22_2,hfz22_0,hfz22_1,hfz22_2⟩:=cB3 BK172.out))
 refine bodyPost_ret (results_ct rfl _ _ gb172 25 #[.int .i64 0,.int .i64 0,.string (⟨#[]⟩ : ByteArray)] (0,0) _ rfl jDD Try.underlying25 rfl jA) rfl ?_;exact ⟨jF,jBS⟩


def Fj.l0 : Nat→List (S25)→Int→Option (Int×Int×ByteArray×Int)
 | 0,_,_=>none
 | k+1,x0,x4=>if x4<(x0.length : Int) then (if 0≤x4 then ((Fr.f k ((rd_T25 x0 x4).f0) ((rd_T25 x0 x4).f1) ((rd_T25 x0 x4).f2)).bind fun t586=>(if t586=true then (Fj.l0 k x0 (wrap64 (x4+1))) else (some (0,0,(⟨#[]⟩ : ByteArray),1)))) else (none)) else ((Fo.f k x0).bind fun bt587=>((F0g.f k bt587.1 bt587.2.1 bt587.2.2).bind fun bt590=>(some (bt590.1,bt590.2.1,bt590.2.2.1,bt590.2.2.2))))
def Fj.f (k : Nat) (l0 : List (S25)) : Option (Int×Int×ByteArray×Int):=if (l0.length : Int) > 4096 then (some (0,0,(⟨#[]⟩ : ByteArray),2)) else (if (l0.length : Int) > 300 then (some (0,0,(⟨#[]⟩ : ByteArray),10)) else (Fj.l0 k l0 0))
theorem Fj.mono_l : ∀ k,(∀ y0 y1,LeO (Fj.l0 k y0 y1) (Fj.l0 (k+1) y0 y1))
 | 0=>fun _ _ r h=>by simp [Fj.l0] at h
 | k+1=>by
  have ih0:=Fj.mono_l k;intro y0 y1;unfold Fj.l0
  repeat' first|(with_reducible first|exact ih0 _ _|exact Fr.mono _ _ _ _|exact F0g.mono _ _ _ _|exact Fo.mono _ _|exact zQ _|exact zN _|refine zP ?_ ?_|refine zO ?_ (fun _=>?_))|refine zP ?_ ?_|refine zO ?_ (fun _=>?_)
theorem Fj.mono : ∀ a0 k,LeO (Fj.f k a0) (Fj.f (k+1) a0):=by
 intro a0 k;have ih0:=Fj.mono_l k;unfold Fj.f
 repeat' first|(with_reducible first|exact ih0 _ _|exact Fr.mono _ _ _ _|exact F0g.mono _ _ _ _|exact Fo.mono _ _|exact zQ _|exact zN _|refine zP ?_ ?_|refine zO ?_ (fun _=>?_))|refine zP ?_ ?_|refine zO ?_ (fun _=>?_)
set_option maxHeartbeats 8000000 in
set_option maxRecDepth 100000 in
theorem Fj.calls (k : Nat) (A0 : Option Addr) (c0 : Nat) (l0 : List (S25)) (r1 : Int) (r2 : Int) (r3 : ByteArray) (r4 : Int) (w : World) (hr0 : Kd.C k25 w A0 l0.length l0) (hc0 : l0.length≤c0) (h : Fj.f k l0=some (r1,r2,r3,r4)) :
  Calls Try.prog 14 #[.slice A0 l0.length c0] w fun e w' => e = .returned (.tuple #[.agg #[.int .i64 r1,.int .i64 r2,.string r3],.int .i64 r4])∧Below w.heap.size w w':=by
 have hu25:=Try.underlying25;have HR0:=zh hr0;have HC0:=zh hc0;clear hr0 hc0;have HB:=zh (Below.refl w.heap.size w);have H : (if (l0.length : Int) > 4096 then (some (0,0,(⟨#[]⟩ : ByteArray),2)) else (if (l0.length : Int) > 300 then (some (0,0,(⟨#[]⟩ : ByteArray),10)) else (Fj.l0 k l0 0)))=some (r1,r2,r3,r4):=h;clear h
 by_cases c2 : (l0.length : Int) > 4096
 ·
  rw [if_pos c2] at H
  have c2b0 : decide (4096<(l0.length : Int))=true:=decide_eq_true c2;have c2b1 : decide (4096<l0.length)=true:=decide_eq_true jH;clear c2;simp only [Option.some.injEq,Prod.mk.injEq] at H;obtain ⟨rfl,rfl,rfl,rfl⟩:=H
  go_enter Try.func14,Try.ntmps14
  go_wp2_with (first|((with_reducible refine zK (N:=2) rfl ?_);refine zI ?hg (N:=2) ?hd (cs:=#[.int .i64 0,.int .i64 0,.string (⟨#[]⟩ : ByteArray)]) (t:=25) ?hr ?_;(case hd=>rfl);(case hg=>rfl);(case hr=>go_simp <;> rfl);intro gb584 hg w3 hbox hb;have BK584:=zh (hbox);have hH_:=cH jG hb hg;have GW584:=zh hH_.1;have GE584:=GW584;replace HB:=zh hH_.2;clear hb hbox hg hH_;obtain ⟨hcz4_0,hcz4_1,hcz4_2,hfz4_0,hfz4_1,hfz4_2⟩:=cB3 BK584.out))
  refine bodyPost_ret (results_ct rfl _ _ gb584 25 #[.int .i64 0,.int .i64 0,.string (⟨#[]⟩ : ByteArray)] (0,0) _ rfl jDF Try.underlying25 rfl jA) rfl ?_;exact ⟨jF,jAb⟩
 rw [if_neg c2] at H;have c2b0 : decide (4096<(l0.length : Int))=false:=decide_eq_false c2;have c2b1 : decide (4096<l0.length)=false:=decide_eq_false jH;clear c2
 by_cases c5 : (l0.length : Int) > 300
 ·
  rw [if_pos c5] at H
  have c5b0 : decide (300<(l0.length : Int))=true:=decide_eq_true c5;have c5b1 : decide (300<l0.length)=true:=decide_eq_true jH;clear c5;simp only [Option.some.injEq,Prod.mk.injEq] at H;obtain ⟨rfl,rfl,rfl,rfl⟩:=H
  go_enter Try.func14,Try.ntmps14
  go_wp2_with (first|((with_reducible refine zK (N:=2) rfl ?_);refine zI ?hg (N:=2) ?hd (cs:=#[.int .i64 0,.int .i64 0,.string (⟨#[]⟩ : ByteArray)]) (t:=25) ?hr ?_;(case hd=>rfl);(case hg=>rfl);(case hr=>go_simp <;> rfl);intro gb584 hg w6 hbox hb;have BK584:=zh (hbox);have hH_:=cH jG hb hg;have GW584:=zh hH_.1;have GE584:=GW584;replace HB:=zh hH_.2;clear hb hbox hg hH_;obtain ⟨hcz7_0,hcz7_1,hcz7_2,hfz7_0,hfz7_1,hfz7_2⟩:=cB3 BK584.out))
  refine bodyPost_ret (results_ct rfl _ _ gb584 25 #[.int .i64 0,.int .i64 0,.string (⟨#[]⟩ : ByteArray)] (0,0) _ rfl jDF Try.underlying25 rfl jA) rfl ?_;exact ⟨jF,jAb⟩
 rw [if_neg c5] at H;have c5b0 : decide (300<(l0.length : Int))=false:=decide_eq_false c5;have c5b1 : decide (300<l0.length)=false:=decide_eq_false jH;clear c5;have H':=zh H;clear H
 go_enter Try.func14,Try.ntmps14
 go_wp2_with (first|((with_reducible refine zK (N:=2) rfl ?_);refine zI ?hg (N:=2) ?hd (cs:=#[.int .i64 0,.int .i64 0,.string (⟨#[]⟩ : ByteArray)]) (t:=25) ?hr ?_;(case hd=>rfl);(case hg=>rfl);(case hr=>go_simp <;> rfl);intro gb584 hg w8 hbox hb;have BK584:=zh (hbox);have hH_:=cH jG hb hg;have GW584:=zh hH_.1;have GE584:=GW584;replace HB:=zh hH_.2;clear hb hbox hg hH_))
 go_loopg [4] k (fun kq v4 w' => ∃ (x4_1 : Int) (x585000_1 : Int) (x585001_1 : Int) (x585002_1 : ByteArray),v4 = .int .i64 x4_1∧Aside0 (Fj.l0 kq l0 x4_1=some (r1,r2,r3,r4))∧Aside0 (kq≤k)∧Aside0 (w'.heap[gb584]? = some (.cells #[.int .i64 x585000_1,.int .i64 x585001_1,.string x585002_1] 25 (0,0)))∧Aside0 (Below w.heap.size w w'))
 case atStart=>exact ⟨(0),(0),(0),((⟨#[]⟩ : ByteArray)),jC,H',⟨ye _⟩,⟨jBF⟩,⟨jAb⟩⟩
 case round =>
  clear H'
  try clear c1 c2 c2b0 c2b1
  try clear p2
  try clear c5 c5b0 c5b1
  try clear hcz4_0 hcz4_1 hcz4_2
  try clear hcz7_0 hcz7_1 hcz7_2
  try clear hfz4_0 hfz4_1 hfz4_2
  try clear hfz7_0 hfz7_1 hfz7_2
  obtain ⟨x4_1,x585000_1,x585001_1,x585002_1,rfl,HA,HK1,BK584,HB⟩:=hrel
  cases gk with
  | zero=>exact absurd HA.out (by simp [Fj.l0])
  | succ k1 =>
   have H:=HA.out;clear HA;simp only [Fj.l0] at H
   by_cases c9 : x4_1<(l0.length : Int)
   ·
    rw [if_pos c9] at H
    have c9b0 : decide (x4_1<(l0.length : Int))=true:=decide_eq_true c9;clear c9
    by_cases c10 : 0≤x4_1
    ·
     rw [if_pos c10] at H
     have c10b0 : decide (0≤x4_1)=true:=decide_eq_true c10;clear c10;replace H:=zT.mp H;obtain ⟨t586,A110,H⟩:=H;have A11:=zh A110;clear A110
     by_cases c12 : t586=true
     ·
      subst c12
      rw [if_pos rfl] at H;have H':=zh H;clear H;have p585 : 0≤(x4_1 : Int):=zy jE;have q585 : x4_1<(l0.length : Int):=zy jE;obtain ⟨ad585,e585,hx585_0,hx585_1,hx585_2⟩:=at_T25 HR0.out x4_1 p585 q585
      cases e585
      replace hx585_0:=(HB.out.cell (zl w _ hx585_0)).trans hx585_0;replace hx585_1:=(HB.out.cell (zl w _ hx585_1)).trans hx585_1;replace hx585_2:=(HB.out.cell (zl w _ hx585_2)).trans hx585_2;replace p585:=eq_true p585;replace q585:=eq_true q585
      go_wp2_with (first|((with_reducible refine zJ (f:=20) rfl ?_);refine yj (some 23) rfl rfl Try.func20 jA rfl #[.agg #[.int .i64 ((rd_T25 l0 x4_1).f0),.int .i64 ((rd_T25 l0 x4_1).f1),.string ((rd_T25 l0 x4_1).f2)]] rfl jD ?_;(with_reducible refine (Fr.calls k1  ((rd_T25 l0 x4_1).f0) ((rd_T25 l0 x4_1).f1) ((rd_T25 l0 x4_1).f2) true _ A11.out).mono ?_);rintro e w13 ⟨rfl,hb⟩;refine ⟨_,rfl,?_⟩;replace BK584:=zh (cD BK584.out jBF hb);replace HB:=zh (zC jAb hb);(try clear hb);(try clear hb2);(try clear hk);(try clear hi)))
      go_roundg k1
      case measure=>have:=HK1.out;omega
      case rel=>exact ⟨(wrap64 (x4_1+1)),(x585000_1),(x585001_1),(x585002_1),jC,H',⟨jZ⟩,⟨jBF⟩,⟨jAb⟩⟩
     replace c12:=yb.mpr c12;subst c12;rw [if_neg (show ¬ (false=true) by decide)] at H;simp only [Option.some.injEq,Prod.mk.injEq] at H;obtain ⟨rfl,rfl,rfl,rfl⟩:=H;have p585 : 0≤(x4_1 : Int):=zy jE;have q585 : x4_1<(l0.length : Int):=zy jE;obtain ⟨ad585,e585,hx585_0,hx585_1,hx585_2⟩:=at_T25 HR0.out x4_1 p585 q585
     cases e585
     replace hx585_0:=(HB.out.cell (zl w _ hx585_0)).trans hx585_0;replace hx585_1:=(HB.out.cell (zl w _ hx585_1)).trans hx585_1;replace hx585_2:=(HB.out.cell (zl w _ hx585_2)).trans hx585_2;replace p585:=eq_true p585;replace q585:=eq_true q585
     go_wp2_with (first|((with_reducible refine zJ (f:=20) rfl ?_);refine yj (some 23) rfl rfl Try.func20 jA rfl #[.agg #[.int .i64 ((rd_T25 l0 x4_1).f0),.int .i64 ((rd_T25 l0 x4_1).f1),.string ((rd_T25 l0 x4_1).f2)]] rfl jD ?_;(with_reducible refine (Fr.calls k1  ((rd_T25 l0 x4_1).f0) ((rd_T25 l0 x4_1).f1) ((rd_T25 l0 x4_1).f2) false _ A11.out).mono ?_);rintro e w14 ⟨rfl,hb⟩;refine ⟨_,rfl,?_⟩;replace BK584:=zh (cD BK584.out jBF hb);replace HB:=zh (zC jAb hb);(try clear hb);(try clear hb2);(try clear hk);(try clear hi);obtain ⟨hcz15_0,hcz15_1,hcz15_2,hfz15_0,hfz15_1,hfz15_2⟩:=cB3 BK584.out))
     refine bodyPost_ret (results_ct rfl _ _ gb584 25 #[.int .i64 0,.int .i64 0,.string (⟨#[]⟩ : ByteArray)] (0,0) _ rfl (by (with_reducible repeat first|apply ze|apply zf|apply zg);refine zL (cs:=#[.int .i64 0,.int .i64 0,.string x585002_1]) ?_ 2 _ rfl;(with_reducible repeat first|apply ze|apply zf|apply zg);refine zL (cs:=#[.int .i64 0,.int .i64 x585001_1,.string x585002_1]) ?_ 1 _ rfl;(with_reducible repeat first|apply ze|apply zf|apply zg);refine zL (cs:=#[.int .i64 x585000_1,.int .i64 x585001_1,.string x585002_1]) ?_ 0 _ rfl;(with_reducible repeat first|apply ze|apply zf|apply zg);exact BK584.out) Try.underlying25 rfl jA) rfl ?_;exact ⟨jF,jAb⟩
    rw [if_neg c10] at H;exact absurd H (by simp)
   rw [if_neg c9] at H;have c9b0 : decide (x4_1<(l0.length : Int))=false:=decide_eq_false c9;clear c9;replace H:=zT.mp H;obtain ⟨⟨t587,t588,t589⟩,A160,H⟩:=H;have A16:=zh A160;clear A160;replace H:=zT.mp H;obtain ⟨⟨t590,t591,t592,t593⟩,A170,H⟩:=H;have A17:=zh A170;clear A170;simp only [Option.some.injEq,Prod.mk.injEq] at H;obtain ⟨rfl,rfl,rfl,rfl⟩:=H
   go_wp2_with (first|((with_reducible refine zJ (f:=35) rfl ?_);refine yj (some 27) rfl rfl Try.func35 jA rfl #[.slice A0 l0.length c0] rfl jD ?_;(with_reducible refine (Fo.calls k1  _ _ l0 t587 t588 t589 _ ?side1 ?side2 A16.out).mono ?_);(case side1=>repeat (first|exact (Kd.C_below HR0.out HB.out)|(with_reducible refine Kd.C_alloc ?_ _)|(with_reducible refine Kd.C_drewN ?_ _)|(with_reducible refine Kd.C_drew ?_)));(case side2=>exact HC0.out);rintro e w18 ⟨rfl,hb⟩;refine ⟨_,rfl,?_⟩;replace BK584:=zh (cD BK584.out jBF hb);replace HB:=zh (zC jAb hb);(try clear hb);(try clear hb2);(try clear hk);(try clear hi))|((with_reducible refine zJ (f:=21) rfl ?_);refine yj (some 28) rfl rfl Try.func21 jA rfl #[.agg #[.int .i64 t587,.int .i64 t588,.string t589]] rfl jD ?_;(with_reducible refine (F0g.calls k1  t587 t588 t589 t590 t591 t592 t593 _ A17.out).mono ?_);rintro e w19 ⟨rfl,hb⟩;refine ⟨_,rfl,?_⟩;replace BK584:=zh (cD BK584.out jBF hb);replace HB:=zh (zC jAb hb);(try clear hb);(try clear hb2);(try clear hk);(try clear hi);obtain ⟨hcz20_0,hcz20_1,hcz20_2,hfz20_0,hfz20_1,hfz20_2⟩:=cB3 BK584.out))
   refine bodyPost_ret (results_ct rfl _ _ gb584 25 #[.int .i64 t590,.int .i64 t591,.string t592] (0,0) _ rfl (by (with_reducible repeat first|apply ze|apply zf|apply zg);refine zL (cs:=#[.int .i64 t590,.int .i64 t591,.string x585002_1]) ?_ 2 _ rfl;(with_reducible repeat first|apply ze|apply zf|apply zg);refine zL (cs:=#[.int .i64 t590,.int .i64 x585001_1,.string x585002_1]) ?_ 1 _ rfl;(with_reducible repeat first|apply ze|apply zf|apply zg);refine zL (cs:=#[.int .i64 x585000_1,.int .i64 x585001_1,.string x585002_1]) ?_ 0 _ rfl;(with_reducible repeat first|apply ze|apply zf|apply zg);exact BK584.out) Try.underlying25 rfl jA) rfl ?_;exact ⟨jF,jAb⟩


def F08.f (k : Nat) (a0_0 : Int) (a0_1 : Int) (a0_2 : ByteArray) : Option ((List (S25))×Int):=(Fw.f k a0_0 a0_1 a0_2).bind fun t595=>(if t595=true then (if a0_0=4 then ((Fe.f k a0_0 a0_1 a0_2).bind fun bt596=>(some (bt596.1,0))) else (some (([] : List (S25)),8))) else (some (([] : List (S25)),1)))
theorem F08.mono : ∀ a0 a1 a2 k,LeO (F08.f k a0 a1 a2) (F08.f (k+1) a0 a1 a2):=by
 intro a0 a1 a2 k;unfold F08.f
 repeat' first|(with_reducible first|exact Fw.mono _ _ _ _|exact Fe.mono _ _ _ _|exact zQ _|exact zN _|refine zP ?_ ?_|refine zO ?_ (fun _=>?_))|refine zP ?_ ?_|refine zO ?_ (fun _=>?_)
set_option maxHeartbeats 8000000 in
set_option maxRecDepth 100000 in
theorem F08.calls (k : Nat) (a0_0 : Int) (a0_1 : Int) (a0_2 : ByteArray) (r1 : List (S25)) (r2 : Int) (w : World) (h : F08.f k a0_0 a0_1 a0_2=some (r1,r2)) :
  Calls Try.prog 15 #[.agg #[.int .i64 a0_0,.int .i64 a0_1,.string a0_2]] w fun e w' => ∃ v0_ : Value,e = .returned (.tuple #[v0_,.int .i64 r2])∧Kd.R k25 25 w' w.heap.size (fun _=>True) v0_ r1∧Below w.heap.size w w':=by
 have hu25:=Try.underlying25;have HB:=zh (Below.refl w.heap.size w);have H : ((Fw.f k a0_0 a0_1 a0_2).bind fun t595=>(if t595=true then (if a0_0=4 then ((Fe.f k a0_0 a0_1 a0_2).bind fun bt596=>(some (bt596.1,0))) else (some (([] : List (S25)),8))) else (some (([] : List (S25)),1))))=some (r1,r2):=h;clear h;replace H:=zT.mp H;obtain ⟨t595,A20,H⟩:=H;have A2:=zh A20;clear A20
 by_cases c3 : t595=true
 ·
  subst c3
  rw [if_pos rfl] at H
  by_cases c4 : a0_0=4
  ·
   rw [if_pos c4] at H
   have c4b0 : (a0_0 == 4)=true:=ya.mpr c4;have c4b1 : (a0_0 != 4)=false:=zX.mpr c4;clear c4;replace H:=zT.mp H;obtain ⟨⟨t596,t599⟩,A50,H⟩:=H;have A5:=zh A50;clear A50;simp only [Option.some.injEq,Prod.mk.injEq] at H;obtain ⟨rfl,rfl⟩:=H
   go_enter Try.func15,Try.ntmps15
   go_wp2_with (first|((with_reducible refine zK (N:=1) rfl ?_);refine zI ?hg (N:=1) ?hd (cs:=#[.int .i64 a0_0,.int .i64 a0_1,.string a0_2]) (t:=25) ?hr ?_;(case hd=>rfl);(case hg=>rfl);(case hr=>go_simp <;> rfl);intro gb594 hg w6 hbox hb;have BK594:=zh (hbox);have hH_:=cH jG hb hg;have GW594:=zh hH_.1;have GE594:=GW594;replace HB:=zh hH_.2;clear hb hbox hg hH_;obtain ⟨hcz7_0,hcz7_1,hcz7_2,hfz7_0,hfz7_1,hfz7_2⟩:=cB3 BK594.out)|((with_reducible refine zJ (f:=26) rfl ?_);refine yj (some 8) rfl rfl Try.func26 jA rfl #[.agg #[.int .i64 a0_0,.int .i64 a0_1,.string a0_2]] rfl jD ?_;(with_reducible refine (Fw.calls k  a0_0 a0_1 a0_2 true _ A2.out).mono ?_);rintro e w8 ⟨rfl,hb⟩;refine ⟨_,rfl,?_⟩;replace BK594:=zh (cD BK594.out jBT hb);replace HB:=zh (zC jAp hb);(try clear hb);(try clear hb2);(try clear hk);(try clear hi);obtain ⟨hcz9_0,hcz9_1,hcz9_2,hfz9_0,hfz9_1,hfz9_2⟩:=cB3 BK594.out)|((with_reducible refine zJ (f:=36) rfl ?_);refine yj (some 16) rfl rfl Try.func36 jA rfl #[.agg #[.int .i64 a0_0,.int .i64 a0_1,.string a0_2]] rfl jD ?_;(with_reducible refine (Fe.calls k  a0_0 a0_1 a0_2 t596 t599 _ A5.out).mono ?_);rintro e w10 ⟨v597,rfl,ho0,hb⟩;refine ⟨_,rfl,?_⟩;have HO598:=zh (yy (Kd.R_newB ho0 (g:=gb594) (o:=.cells #[.int .i64 a0_0,.int .i64 a0_1,.string a0_2] 25 (0,0)) jBT) (zB jAp));replace BK594:=zh (cD BK594.out jBT hb);replace HB:=zh (zC jAp hb);(try clear hb);(try clear hb2);(try clear hk);(try clear hi);(try clear ho0)))
   go_ret2
   exact ⟨_,jF,by (with_reducible repeat (first|apply zm|apply zn|apply zo));exact zM HO598.out (fun _ hk=>trivial),jAp⟩
  rw [if_neg c4] at H;have c4b0 : (a0_0 == 4)=false:=zY.mpr c4;have c4b1 : (a0_0 != 4)=true:=zZ.mpr c4;simp only [Option.some.injEq,Prod.mk.injEq] at H;obtain ⟨rfl,rfl⟩:=H
  go_enter Try.func15,Try.ntmps15
  go_wp2_with (first|((with_reducible refine zK (N:=1) rfl ?_);refine zI ?hg (N:=1) ?hd (cs:=#[.int .i64 a0_0,.int .i64 a0_1,.string a0_2]) (t:=25) ?hr ?_;(case hd=>rfl);(case hg=>rfl);(case hr=>go_simp <;> rfl);intro gb594 hg w11 hbox hb;have BK594:=zh (hbox);have hH_:=cH jG hb hg;have GW594:=zh hH_.1;have GE594:=GW594;replace HB:=zh hH_.2;clear hb hbox hg hH_;obtain ⟨hcz12_0,hcz12_1,hcz12_2,hfz12_0,hfz12_1,hfz12_2⟩:=cB3 BK594.out)|((with_reducible refine zJ (f:=26) rfl ?_);refine yj (some 8) rfl rfl Try.func26 jA rfl #[.agg #[.int .i64 a0_0,.int .i64 a0_1,.string a0_2]] rfl jD ?_;(with_reducible refine (Fw.calls k  a0_0 a0_1 a0_2 true _ A2.out).mono ?_);rintro e w13 ⟨rfl,hb⟩;refine ⟨_,rfl,?_⟩;replace BK594:=zh (cD BK594.out jBT hb);replace HB:=zh (zC jAp hb);(try clear hb);(try clear hb2);(try clear hk);(try clear hi);obtain ⟨hcz14_0,hcz14_1,hcz14_2,hfz14_0,hfz14_1,hfz14_2⟩:=cB3 BK594.out))
  go_ret2
  exact ⟨_,jF,jBn,jAp⟩
 replace c3:=yb.mpr c3;subst c3;rw [if_neg (show ¬ (false=true) by decide)] at H;simp only [Option.some.injEq,Prod.mk.injEq] at H;obtain ⟨rfl,rfl⟩:=H
 go_enter Try.func15,Try.ntmps15
 go_wp2_with (first|((with_reducible refine zK (N:=1) rfl ?_);refine zI ?hg (N:=1) ?hd (cs:=#[.int .i64 a0_0,.int .i64 a0_1,.string a0_2]) (t:=25) ?hr ?_;(case hd=>rfl);(case hg=>rfl);(case hr=>go_simp <;> rfl);intro gb594 hg w15 hbox hb;have BK594:=zh (hbox);have hH_:=cH jG hb hg;have GW594:=zh hH_.1;have GE594:=GW594;replace HB:=zh hH_.2;clear hb hbox hg hH_;obtain ⟨hcz16_0,hcz16_1,hcz16_2,hfz16_0,hfz16_1,hfz16_2⟩:=cB3 BK594.out)|((with_reducible refine zJ (f:=26) rfl ?_);refine yj (some 8) rfl rfl Try.func26 jA rfl #[.agg #[.int .i64 a0_0,.int .i64 a0_1,.string a0_2]] rfl jD ?_;(with_reducible refine (Fw.calls k  a0_0 a0_1 a0_2 false _ A2.out).mono ?_);rintro e w17 ⟨rfl,hb⟩;refine ⟨_,rfl,?_⟩;replace BK594:=zh (cD BK594.out jBT hb);replace HB:=zh (zC jAp hb);(try clear hb);(try clear hb2);(try clear hk);(try clear hi)))
 go_ret2
 exact ⟨_,jF,jBn,jAp⟩

end Go.Proofs.Ytoinoihiknmnmaa.Q
end
section
namespace Go.Proofs.Ytoinoihiknmnmaa.Q
open Go.RowKit Go.Proofs.YtoinoihiknmnmaaW.PrintWords Go.Proofs.YtoinoihiknmnmaaW.PrintLast Go.Proofs.YtoinoihiknmnmaaW.PrintMore
attribute [local go_sem] max2_int min2_int max_two min_two max_three min_three max_four min_four max2_str min2_str str_geq str_gtr str_leq   -- for this text's walks alone
set_option linter.unusedVariables false
set_option linter.unusedSimpArgs false

attribute [local go_sem high] eqA25
def Fm.l0 : Nat→List (S25)→List (S25)→Int→Option (Bool)
 | 0,_,_,_=>none
 | k+1,x0,x1,x5=>if x5<(x0.length : Int) then (if 0≤x5 then (if x5<(x1.length : Int) then (if (!(((rd_T25 x0 x5).f0) == ((rd_T25 x1 x5).f0)) || (!(((rd_T25 x0 x5).f1) == ((rd_T25 x1 x5).f1)) || (!((((rd_T25 x0 x5).f2).toList) == (((rd_T25 x1 x5).f2).toList)))))=true then (some false) else (Fm.l0 k x0 x1 (wrap64 (x5+1)))) else (none)) else (none)) else (some true)
def Fm.f (k : Nat) (l0 : List (S25)) (l1 : List (S25)) : Option (Bool):=if (l0.length : Int)=(l1.length : Int) then (Fm.l0 k l0 l1 0) else (some false)
theorem Fm.mono_l : ∀ k,(∀ y0 y1 y2,LeO (Fm.l0 k y0 y1 y2) (Fm.l0 (k+1) y0 y1 y2))
 | 0=>fun _ _ _ r h=>by simp [Fm.l0] at h
 | k+1=>by
  have ih0:=Fm.mono_l k;intro y0 y1 y2;unfold Fm.l0
  repeat' first|(with_reducible first|exact ih0 _ _ _|exact zQ _|exact zN _|refine zP ?_ ?_|refine zO ?_ (fun _=>?_))|refine zP ?_ ?_|refine zO ?_ (fun _=>?_)
theorem Fm.mono : ∀ a0 a1 k,LeO (Fm.f k a0 a1) (Fm.f (k+1) a0 a1):=by
 intro a0 a1 k;have ih0:=Fm.mono_l k;unfold Fm.f
 repeat' first|(with_reducible first|exact ih0 _ _ _|exact zQ _|exact zN _|refine zP ?_ ?_|refine zO ?_ (fun _=>?_))|refine zP ?_ ?_|refine zO ?_ (fun _=>?_)
set_option maxHeartbeats 8000000 in
set_option maxRecDepth 100000 in
theorem Fm.calls (k : Nat) (A0 : Option Addr) (c0 : Nat) (l0 : List (S25)) (A1 : Option Addr) (c1 : Nat) (l1 : List (S25)) (r : Bool) (w : World) (hr0 : Kd.C k25 w A0 l0.length l0) (hc0 : l0.length≤c0) (hr1 : Kd.C k25 w A1 l1.length l1) (hc1 : l1.length≤c1) (h : Fm.f k l0 l1=some r) :
  Calls Try.prog 16 #[.slice A0 l0.length c0,.slice A1 l1.length c1] w fun e w' => e = .returned (.bool r)∧Drawn0 w w':=by
 have hu25:=Try.underlying25;have HR0:=zh hr0;have HC0:=zh hc0;clear hr0 hc0;have HR1:=zh hr1;have HC1:=zh hc1;clear hr1 hc1;have H : (if (l0.length : Int)=(l1.length : Int) then (Fm.l0 k l0 l1 0) else (some false))=some r:=h;clear h
 by_cases c3 : (l0.length : Int)=(l1.length : Int)
 ·
  rw [if_pos c3] at H
  have c3b0 : ((l0.length : Int) == (l1.length : Int))=true:=ya.mpr c3;have c3b1 : ((l0.length : Int) != (l1.length : Int))=false:=zX.mpr c3;have c3b2 : (l0.length == l1.length)=true:=by first|simpa using c3|(simp at c3 ⊢;omega)
  clear c3;have H':=zh H;clear H
  go_enter Try.func16,Try.ntmps16
  go_wp2
  repeat (go_quiet (fail);try go_wp2)
  go_loopg [5] k (fun kq v5 w' => ∃ (x5_1 : Int),v5 = .int .i64 x5_1∧Aside0 (Fm.l0 kq l0 l1 x5_1=some r)∧Aside0 (kq≤k)∧Drawn0 w w')
  case atStart=>exact ⟨(0),jC,H',⟨ye _⟩,jK⟩
  case round =>
   clear H'
   try clear c1
   try clear p2
   try clear c3 c3b0 c3b1 c3b2
   obtain ⟨x5_1,rfl,HA,HK1,⟨m1,rfl⟩⟩:=hrel
   cases gk with
   | zero=>exact absurd HA.out (by simp [Fm.l0])
   | succ k1 =>
    have H:=HA.out;clear HA;simp only [Fm.l0] at H
    by_cases c4 : x5_1<(l0.length : Int)
    ·
     rw [if_pos c4] at H
     have c4b0 : decide (x5_1<(l0.length : Int))=true:=decide_eq_true c4;clear c4
     by_cases c5 : 0≤x5_1
     ·
      rw [if_pos c5] at H
      have c5b0 : decide (0≤x5_1)=true:=decide_eq_true c5;clear c5
      by_cases c6 : x5_1<(l1.length : Int)
      ·
       rw [if_pos c6] at H
       have c6b0 : decide (x5_1<(l1.length : Int))=true:=decide_eq_true c6;clear c6
       by_cases c7 : (!(((rd_T25 l0 x5_1).f0) == ((rd_T25 l1 x5_1).f0)) || (!(((rd_T25 l0 x5_1).f1) == ((rd_T25 l1 x5_1).f1)) || (!((((rd_T25 l0 x5_1).f2).toList) == (((rd_T25 l1 x5_1).f2).toList)))))=true
       ·
        rw [if_pos c7] at H
        have c7b0 : (!(((rd_T25 l0 x5_1).f0) == ((rd_T25 l1 x5_1).f0)) || (!(((rd_T25 l0 x5_1).f1) == ((rd_T25 l1 x5_1).f1)) || (!((((rd_T25 l0 x5_1).f2).toList) == (((rd_T25 l1 x5_1).f2).toList)))))=true:=c7;clear c7;obtain rfl:=zU H;have p600 : 0≤(x5_1 : Int):=zy jE;have q600 : x5_1<(l0.length : Int):=zy jE;obtain ⟨ad600,e600,hx600_0,hx600_1,hx600_2⟩:=at_T25 HR0.out x5_1 p600 q600
        cases e600
        replace p600:=eq_true p600;replace q600:=eq_true q600;have p601 : 0≤(x5_1 : Int):=zy jE;have q601 : x5_1<(l1.length : Int):=zy jE;obtain ⟨ad601,e601,hx601_0,hx601_1,hx601_2⟩:=at_T25 HR1.out x5_1 p601 q601
        cases e601
        replace p601:=eq_true p601;replace q601:=eq_true q601
        go_wp2
        repeat (go_quiet (fail);try go_wp2)
        go_ret
        exact ⟨jC,jK⟩
       rw [if_neg c7] at H;have c7b0 : (!(((rd_T25 l0 x5_1).f0) == ((rd_T25 l1 x5_1).f0)) || (!(((rd_T25 l0 x5_1).f1) == ((rd_T25 l1 x5_1).f1)) || (!((((rd_T25 l0 x5_1).f2).toList) == (((rd_T25 l1 x5_1).f2).toList)))))=false:=by simpa using c7
       clear c7;have H':=zh H;clear H;have p600 : 0≤(x5_1 : Int):=zy jE;have q600 : x5_1<(l0.length : Int):=zy jE;obtain ⟨ad600,e600,hx600_0,hx600_1,hx600_2⟩:=at_T25 HR0.out x5_1 p600 q600
       cases e600
       replace p600:=eq_true p600;replace q600:=eq_true q600;have p601 : 0≤(x5_1 : Int):=zy jE;have q601 : x5_1<(l1.length : Int):=zy jE;obtain ⟨ad601,e601,hx601_0,hx601_1,hx601_2⟩:=at_T25 HR1.out x5_1 p601 q601
       cases e601
       replace p601:=eq_true p601;replace q601:=eq_true q601
       go_wp2
       repeat (go_quiet (fail);try go_wp2)
       go_roundg k1
       case measure=>have:=HK1.out;omega
       case rel=>exact ⟨(wrap64 (x5_1+1)),jC,H',⟨jZ⟩,jK⟩
      rw [if_neg c6] at H;exact absurd H (by simp)
     rw [if_neg c5] at H;exact absurd H (by simp)
    rw [if_neg c4] at H;have c4b0 : decide (x5_1<(l0.length : Int))=false:=decide_eq_false c4;clear c4;obtain rfl:=zU H
    go_wp2
    repeat (go_quiet (fail);try go_wp2)
    go_ret
    exact ⟨jC,jK⟩
 rw [if_neg c3] at H;have c3b0 : ((l0.length : Int) == (l1.length : Int))=false:=zY.mpr c3;have c3b1 : ((l0.length : Int) != (l1.length : Int))=true:=zZ.mpr c3;have c3b2 : (l0.length == l1.length)=false:=by first|simpa using c3|(simp at c3 ⊢;omega)
 obtain rfl:=zU H
 go_enter Try.func16,Try.ntmps16
 go_wp2
 repeat (go_quiet (fail);try go_wp2)
 go_ret
 exact ⟨jC,jK⟩

end Go.Proofs.Ytoinoihiknmnmaa.Q
end
section
namespace Go.Proofs.Ytoinoihiknmnmaa.Q
open Go.RowKit Go.Proofs.YtoinoihiknmnmaaW.PrintWords Go.Proofs.YtoinoihiknmnmaaW.PrintLast Go.Proofs.YtoinoihiknmnmaaW.PrintMore
attribute [local go_sem] max2_int min2_int max_two min_two max_three min_three max_four min_four max2_str min2_str str_geq str_gtr str_leq
set_option linter.unusedVariables false
set_option linter.unusedSimpArgs false

def F0b.f (k : Nat) (a0_0 : Int) (a0_1 : Int) (a0_2 : ByteArray) : Option ((List (S43))×Int):=(Fw.f k a0_0 a0_1 a0_2).bind fun t603=>(if t603=true then (if a0_0=5 then ((F7.f k a0_0 a0_1 a0_2).bind fun bt604=>(some (bt604.1,0))) else (some (([] : List (S43)),8))) else (some (([] : List (S43)),1)))
theorem F0b.mono : ∀ a0 a1 a2 k,LeO (F0b.f k a0 a1 a2) (F0b.f (k+1) a0 a1 a2):=by
 intro a0 a1 a2 k;unfold F0b.f
 repeat' first|(with_reducible first|exact Fw.mono _ _ _ _|exact F7.mono _ _ _ _|exact zQ _|exact zN _|refine zP ?_ ?_|refine zO ?_ (fun _=>?_))|refine zP ?_ ?_|refine zO ?_ (fun _=>?_)
set_option maxHeartbeats 8000000 in
set_option maxRecDepth 100000 in
theorem F0b.calls (k : Nat) (a0_0 : Int) (a0_1 : Int) (a0_2 : ByteArray) (r1 : List (S43)) (r2 : Int) (w : World) (h : F0b.f k a0_0 a0_1 a0_2=some (r1,r2)) :
  Calls Try.prog 17 #[.agg #[.int .i64 a0_0,.int .i64 a0_1,.string a0_2]] w fun e w' => ∃ v0_ : Value,e = .returned (.tuple #[v0_,.int .i64 r2])∧Kd.R k43 43 w' w.heap.size (fun _=>True) v0_ r1∧Below w.heap.size w w':=by
 have hu25:=Try.underlying25;have HB:=zh (Below.refl w.heap.size w);have H : ((Fw.f k a0_0 a0_1 a0_2).bind fun t603=>(if t603=true then (if a0_0=5 then ((F7.f k a0_0 a0_1 a0_2).bind fun bt604=>(some (bt604.1,0))) else (some (([] : List (S43)),8))) else (some (([] : List (S43)),1))))=some (r1,r2):=h;clear h;replace H:=zT.mp H;obtain ⟨t603,A20,H⟩:=H;have A2:=zh A20;clear A20
 by_cases c3 : t603=true
 ·
  subst c3
  rw [if_pos rfl] at H
  by_cases c4 : a0_0=5
  ·
   rw [if_pos c4] at H
   have c4b0 : (a0_0 == 5)=true:=ya.mpr c4;have c4b1 : (a0_0 != 5)=false:=zX.mpr c4;clear c4;replace H:=zT.mp H;obtain ⟨⟨t604,t607⟩,A50,H⟩:=H;have A5:=zh A50;clear A50;simp only [Option.some.injEq,Prod.mk.injEq] at H;obtain ⟨rfl,rfl⟩:=H
   go_enter Try.func17,Try.ntmps17
   go_wp2_with (first|((with_reducible refine zK (N:=1) rfl ?_);refine zI ?hg (N:=1) ?hd (cs:=#[.int .i64 a0_0,.int .i64 a0_1,.string a0_2]) (t:=25) ?hr ?_;(case hd=>rfl);(case hg=>rfl);(case hr=>go_simp <;> rfl);intro gb602 hg w6 hbox hb;have BK602:=zh (hbox);have hH_:=cH jG hb hg;have GW602:=zh hH_.1;have GE602:=GW602;replace HB:=zh hH_.2;clear hb hbox hg hH_;obtain ⟨hcz7_0,hcz7_1,hcz7_2,hfz7_0,hfz7_1,hfz7_2⟩:=cB3 BK602.out)|((with_reducible refine zJ (f:=26) rfl ?_);refine yj (some 8) rfl rfl Try.func26 jA rfl #[.agg #[.int .i64 a0_0,.int .i64 a0_1,.string a0_2]] rfl jD ?_;(with_reducible refine (Fw.calls k  a0_0 a0_1 a0_2 true _ A2.out).mono ?_);rintro e w8 ⟨rfl,hb⟩;refine ⟨_,rfl,?_⟩;replace BK602:=zh (cD BK602.out jBo hb);replace HB:=zh (zC jAq hb);(try clear hb);(try clear hb2);(try clear hk);(try clear hi);obtain ⟨hcz9_0,hcz9_1,hcz9_2,hfz9_0,hfz9_1,hfz9_2⟩:=cB3 BK602.out)|((with_reducible refine zJ (f:=37) rfl ?_);refine yj (some 16) rfl rfl Try.func37 jA rfl #[.agg #[.int .i64 a0_0,.int .i64 a0_1,.string a0_2]] rfl jD ?_;(with_reducible refine (F7.calls k  a0_0 a0_1 a0_2 t604 t607 _ A5.out).mono ?_);rintro e w10 ⟨v605,rfl,ho0,hb⟩;refine ⟨_,rfl,?_⟩;have HO606:=zh (yy ho0 (zB jAq));replace BK602:=zh (cD BK602.out jBo hb);replace HB:=zh (zC jAq hb);(try clear hb);(try clear hb2);(try clear hk);(try clear hi);(try clear ho0)))
   go_ret2
   exact ⟨_,jF,by (with_reducible repeat (first|apply zm|apply zn|apply zo));exact HO606.out,jAq⟩
  rw [if_neg c4] at H;have c4b0 : (a0_0 == 5)=false:=zY.mpr c4;have c4b1 : (a0_0 != 5)=true:=zZ.mpr c4;simp only [Option.some.injEq,Prod.mk.injEq] at H;obtain ⟨rfl,rfl⟩:=H
  go_enter Try.func17,Try.ntmps17
  go_wp2_with (first|((with_reducible refine zK (N:=1) rfl ?_);refine zI ?hg (N:=1) ?hd (cs:=#[.int .i64 a0_0,.int .i64 a0_1,.string a0_2]) (t:=25) ?hr ?_;(case hd=>rfl);(case hg=>rfl);(case hr=>go_simp <;> rfl);intro gb602 hg w11 hbox hb;have BK602:=zh (hbox);have hH_:=cH jG hb hg;have GW602:=zh hH_.1;have GE602:=GW602;replace HB:=zh hH_.2;clear hb hbox hg hH_;obtain ⟨hcz12_0,hcz12_1,hcz12_2,hfz12_0,hfz12_1,hfz12_2⟩:=cB3 BK602.out)|((with_reducible refine zJ (f:=26) rfl ?_);refine yj (some 8) rfl rfl Try.func26 jA rfl #[.agg #[.int .i64 a0_0,.int .i64 a0_1,.string a0_2]] rfl jD ?_;(with_reducible refine (Fw.calls k  a0_0 a0_1 a0_2 true _ A2.out).mono ?_);rintro e w13 ⟨rfl,hb⟩;refine ⟨_,rfl,?_⟩;replace BK602:=zh (cD BK602.out jBo hb);replace HB:=zh (zC jAq hb);(try clear hb);(try clear hb2);(try clear hk);(try clear hi);obtain ⟨hcz14_0,hcz14_1,hcz14_2,hfz14_0,hfz14_1,hfz14_2⟩:=cB3 BK602.out))
  go_ret2
  exact ⟨_,jF,jBn,jAq⟩
 replace c3:=yb.mpr c3;subst c3;rw [if_neg (show ¬ (false=true) by decide)] at H;simp only [Option.some.injEq,Prod.mk.injEq] at H;obtain ⟨rfl,rfl⟩:=H
 go_enter Try.func17,Try.ntmps17
 go_wp2_with (first|((with_reducible refine zK (N:=1) rfl ?_);refine zI ?hg (N:=1) ?hd (cs:=#[.int .i64 a0_0,.int .i64 a0_1,.string a0_2]) (t:=25) ?hr ?_;(case hd=>rfl);(case hg=>rfl);(case hr=>go_simp <;> rfl);intro gb602 hg w15 hbox hb;have BK602:=zh (hbox);have hH_:=cH jG hb hg;have GW602:=zh hH_.1;have GE602:=GW602;replace HB:=zh hH_.2;clear hb hbox hg hH_;obtain ⟨hcz16_0,hcz16_1,hcz16_2,hfz16_0,hfz16_1,hfz16_2⟩:=cB3 BK602.out)|((with_reducible refine zJ (f:=26) rfl ?_);refine yj (some 8) rfl rfl Try.func26 jA rfl #[.agg #[.int .i64 a0_0,.int .i64 a0_1,.string a0_2]] rfl jD ?_;(with_reducible refine (Fw.calls k  a0_0 a0_1 a0_2 false _ A2.out).mono ?_);rintro e w17 ⟨rfl,hb⟩;refine ⟨_,rfl,?_⟩;replace BK602:=zh (cD BK602.out jBo hb);replace HB:=zh (zC jAq hb);(try clear hb);(try clear hb2);(try clear hk);(try clear hi)))
 go_ret2
 exact ⟨_,jF,jBn,jAq⟩


def F1.place (x : List S43) (nm : ByteArray) : Nat→Nat
 | 0=>0
 | n+1=>if Op.bytesLess nm.toList (rd_T43 x (n : Int)).f0.toList=true then F1.place x nm n else n+1
theorem F1.place_le (x : List S43) (nm : ByteArray) : ∀ n,F1.place x nm n≤n
 | 0=>ye _
 | n+1=>by
  unfold F1.place
  split
  ·
   exact Nat.le_succ_of_le (F1.place_le x nm n)
  exact ye _
def F1.ins (x : List S43) (f : S43) : List S43:=x.take (F1.place x f.f0 x.length) ++ [f]++x.drop (F1.place x f.f0 x.length)
def F1.go (k : Nat) : List S43→List S43→Option (Int×Int×ByteArray×Int)
 | [],out=>(Fa.f k out).bind fun d=>(F0g.f k d.1 d.2.1 d.2.2).bind fun r=>some (r.1,r.2.1,r.2.2.1,r.2.2.2)
 | f :: rest,out=>(F0a.f k f.f0).bind fun t=>(if t=true then ((Fr.f k f.f1.f0 f.f1.f1 f.f1.f2).bind fun u=>(if u=true then (if 0<F1.place out f.f0 out.length∧(rd_T43 out ((F1.place out f.f0 out.length : Int) - 1)).f0.toList=f.f0.toList then (some (0,0,(⟨#[]⟩ : ByteArray),12)) else (F1.go k rest (F1.ins out f))) else (some (0,0,(⟨#[]⟩ : ByteArray),1)))) else (some (0,0,(⟨#[]⟩ : ByteArray),11)))
def F1.f (k : Nat) (l0 : List S43) : Option (Int×Int×ByteArray×Int):=if (l0.length : Int) > 4096 then (some (0,0,(⟨#[]⟩ : ByteArray),2)) else (if (l0.length : Int) > 300 then (some (0,0,(⟨#[]⟩ : ByteArray),10)) else (F1.go k l0 []))
theorem F1.mono_l : ∀ (rest out : List S43) (k : Nat),LeO (F1.go k rest out) (F1.go (k+1) rest out)
 | [],out,k=>by
  unfold F1.go;exact zO (Fa.mono _ _) (fun _=>zO (F0g.mono _ _ _ _) (fun _=>zQ _))
 | f :: rest,out,k=>by
  unfold F1.go;exact zO (F0a.mono _ _) (fun _=>zP (zO (Fr.mono _ _ _ _) (fun _=>zP (zP (zQ _) (F1.mono_l rest _ k)) (zQ _))) (zQ _))
theorem F1.mono : ∀ a0 k,LeO (F1.f k a0) (F1.f (k+1) a0):=by
 intro a0 k;unfold F1.f;exact zP (zQ _) (zP (zQ _) (F1.mono_l _ _ _))
theorem F1.w_next (i : Nat) (h : i≤4611686018427387904) : wrap64 ((i : Int)+1)=((i+1 : Nat) : Int):=by unfold wrap64;omega
theorem F1.blk_at {w : World} {g : Nat} {o : Obj} (h : w.heap.size=g) : (w.alloc o).heap[g]? = some o:=by subst h;exact blk_new w o
theorem F1.C_one {w : World} {g : Nat} (p : S43) (h : w.heap[g]? = some (.cells #[.string p.f0,.int .i64 p.f1.f0,.int .i64 p.f1.f1,.string p.f1.f2] 43 (0,0))) : Kd.C k43 w (some ⟨g,0,none⟩) 1 [p] :=
 ⟨rfl,jH,fun _=>⟨_,rfl,fun j q hj=>by
  cases j with
  | succ j=>simp at hj
  | zero =>
   obtain rfl : p=q:=by simpa using hj
   refine ⟨_,rfl,k43_mk w p,fun i u hi=>?_⟩;rw [add_plain,zz h]
   simpa using hi⟩⟩
theorem F1.gate_step {P : Program} {ops : Array Oper} {o : Oper} {a : Act} {w : World} {K : Act→World→Prop} {Q : Exit→Act→World→Prop} {E : Prop} (N : Tmp) (_ : o.dst=some N) (h : if Region.wanted o (yielded ops a.tmps)=true then Oper.wp P o a w K Q else E) : if Region.wanted o (yielded ops a.tmps)=true then Oper.wp P o a w K Q else E:=h
theorem F1.gate_lit {P : Program} {ops : Array Oper} {o : Oper} {a : Act} {w : World} {K : Act→World→Prop} {Q : Exit→Act→World→Prop} {E : Prop} (s : Operand) (v : Value) (_ : a.eval s=v) (g : Nat) (b : Obj) (h : w.heap[g]? = some b) (k : w.heap[g]? = some b→if Region.wanted o (yielded ops a.tmps)=true then Oper.wp P o a w K Q else E) : if Region.wanted o (yielded ops a.tmps)=true then Oper.wp P o a w K Q else E:=k h
theorem F1.R_empty_at (base : Nat) (W : World) (g : Nat) (hg : W.heap.size=g) (hb : base≤W.heap.size) : Kd.R k43 43 (W.alloc (.cells #[] 43)) base (fun _=>True) (.slice (some ⟨g,0,none⟩) 0 0) []:=by
 subst hg;exact Go.Proofs.Ytoinoihiknmnmaa.Row.R_empty _ _ _ _ _ trivial hb
theorem F1.two_b (W : World) (o b : Obj) : ((W.alloc o).alloc b).heap[W.heap.size+1]? = some b:=F1.blk_at (by simp)
theorem F1.two_c (W : World) (o b : Obj) : ((W.alloc b).alloc o).heap[W.heap.size]? = some b:=zg (F1.blk_at rfl) _
theorem F1.K_M {w w' : World} {base : Nat} {ok : Nat→Prop} (x : S43) (cs : List Value) (h : k43.K w' x cs) : k43.M w base ok x cs:=by rw [k43_open h];exact k43_mkM _ _ _ _
theorem F1.addr {w : World} {base n c : Nat} {ok : Nat→Prop} {A : Option Addr} {xs : List S43} (h : Kd.R k43 43 w base ok (.slice A n c) xs) : (A=none∧c=0) ∨ ∃ g,A=some ⟨g,0,none⟩:=by
 obtain ⟨_,inner,⟨_,h⟩,_⟩:=h;rcases h with ⟨h,_⟩|⟨g,cap,cur,h,_⟩
 ·
  injection h with h1 _ h2;exact .inl ⟨h1,h2⟩
 injection h with h1;exact .inr ⟨g,h1⟩
set_option maxHeartbeats 8000000 in
set_option maxRecDepth 100000 in
theorem F1.calls (k : Nat) (A0 : Option Addr) (c0 : Nat) (l0 : List S43) (r1 : Int) (r2 : Int) (r3 : ByteArray) (r4 : Int) (w : World) (hr0 : Kd.C k43 w A0 l0.length l0) (hc0 : l0.length≤c0) (h : F1.f k l0=some (r1,r2,r3,r4)) :
  Calls Try.prog 6 #[.slice A0 l0.length c0] w fun e w' => e = .returned (.tuple #[.agg #[.int .i64 r1,.int .i64 r2,.string r3],.int .i64 r4])∧Below w.heap.size w w':=by
 have hu25:=Try.underlying25;have hu43:=Try.underlying43;have hz0 : (w.alloc (.cells #[.int .i64 0,.int .i64 0,.string ⟨#[]⟩] 25)).heap[w.heap.size]? = some (.cells #[.int .i64 0,.int .i64 0,.string ⟨#[]⟩] 25 (0,0)):=blk_new w _;unfold F1.f at h
 by_cases c1 : (l0.length : Int) > 4096
 ·
  rw [if_pos c1] at h
  simp only [Option.some.injEq,Prod.mk.injEq] at h;obtain ⟨rfl,rfl,rfl,rfl⟩:=h;have c1b : decide (4096<(l0.length : Int))=true:=decide_eq_true c1
  go_enter Try.func6,Try.ntmps6
  go_wp2_with fail
  refine bodyPost_ret (results_ct rfl _ _ w.heap.size 25 #[.int .i64 0,.int .i64 0,.string ⟨#[]⟩] (0,0) _ rfl hz0 hu25 rfl jA) rfl ?_;exact ⟨rfl,za (Below.refl _ _) _⟩
 rw [if_neg c1] at h;have c1b : decide (4096<(l0.length : Int))=false:=decide_eq_false jH
 by_cases c2 : (l0.length : Int) > 300
 ·
  rw [if_pos c2] at h
  simp only [Option.some.injEq,Prod.mk.injEq] at h;obtain ⟨rfl,rfl,rfl,rfl⟩:=h;have c2b : decide (300<(l0.length : Int))=true:=decide_eq_true c2
  go_enter Try.func6,Try.ntmps6
  go_wp2_with fail
  refine bodyPost_ret (results_ct rfl _ _ w.heap.size 25 #[.int .i64 0,.int .i64 0,.string ⟨#[]⟩] (0,0) _ rfl hz0 hu25 rfl jA) rfl ?_;exact ⟨rfl,za (Below.refl _ _) _⟩
 rw [if_neg c2] at h;have c2b : decide (300<(l0.length : Int))=false:=decide_eq_false jH;have hl300 : l0.length≤300:=by omega
 clear c1 c2
 go_enter Try.func6,Try.ntmps6
 go_wp2_with fail
 go_loopg [4,5] l0.length (fun kq v4 v5 w' => ∃ (i : Nat) (out : List S43),v5 = .int .i64 (i : Int)∧Aside0 (kq+i=l0.length)∧Aside0 (F1.go k (l0.drop i) out=some (r1,r2,r3,r4))∧Aside0 (out.length≤i)∧Aside0 (Kd.R k43 43 w' w.heap.size (fun _=>True) v4 out)∧Aside0 (w'.heap[w.heap.size]? = some (.cells #[.int .i64 0,.int .i64 0,.string ⟨#[]⟩] 25 (0,0)))∧Aside0 (Below w.heap.size w w'))
 case atStart =>
  refine ⟨0,[],rfl,⟨jH⟩,⟨by rw [List.drop_zero];exact h⟩,⟨ye _⟩,⟨?_⟩,⟨zg hz0 _⟩,⟨za (za (Below.refl _ _) _) _⟩⟩;have h9:=Go.Proofs.Ytoinoihiknmnmaa.Row.R_empty k43 43 w.heap.size (w.alloc (.cells #[.int .i64 0,.int .i64 0,.string ⟨#[]⟩] 25)) (fun _=>True) trivial (by simp)
  simpa using h9
 case round =>
  obtain ⟨i,out,rfl,HI,HG,HL,HO,HZ,HB⟩:=hrel;obtain ⟨A4,c4,rfl⟩:=yk HO.out
  by_cases hil : i<l0.length
  ·
   have c3 : decide ((i : Int)<(l0.length : Int))=true:=decide_eq_true (Int.ofNat_lt.2 hil)
   have hi0 : (0≤(i : Int))=True:=eq_true (Int.natCast_nonneg i);have hilt : ((i : Int)<(l0.length : Int))=True:=eq_true (Int.ofNat_lt.2 hil);have hwi:=F1.w_next i jH;obtain ⟨kq,rfl⟩ : ∃ kq,gk=kq+1:=⟨gk - 1,jBU⟩;obtain ⟨ad,hA,hx0,hx1,hx2,hx3⟩:=at_T43 hr0 (i : Int) (Int.natCast_nonneg i) (Int.ofNat_lt.2 hil)
   cases hA
   obtain ⟨f,hf⟩ : ∃ f,f=l0[i]:=⟨_,rfl⟩
   have er : rd_T43 l0 (i : Int)=f:=by
    unfold rd_T43;rw [List.getD_eq_getElem?_getD,Int.toNat_natCast,List.getElem?_eq_getElem hil,hf];rfl
   rw [er] at hx0 hx1 hx2 hx3;rw [Int.toNat_natCast] at hx0 hx1 hx2 hx3;replace hx0:=(HB.out.cell (zl w _ hx0)).trans hx0;replace hx1:=(HB.out.cell (zl w _ hx1)).trans hx1;replace hx2:=(HB.out.cell (zl w _ hx2)).trans hx2;replace hx3:=(HB.out.cell (zl w _ hx3)).trans hx3;have h:=HG.out;rw [List.drop_eq_getElem_cons hil,← hf] at h;clear HG hf er;unfold F1.go at h;obtain ⟨t,hT,h⟩:=zT.mp h;obtain ⟨gf,hgf⟩ : ∃ gf,gf=wr.heap.size:=⟨_,rfl⟩;obtain ⟨V,hV⟩ : ∃ V,V=wr.alloc (.cells #[.string f.f0,.int .i64 f.f1.f0,.int .i64 f.f1.f1,.string f.f1.f2] 43):=⟨_,rfl⟩;have hVb : V.heap[gf]? = some (.cells #[.string f.f0,.int .i64 f.f1.f0,.int .i64 f.f1.f1,.string f.f1.f2] 43 (0,0)):=by rw [hV,hgf];exact blk_new wr _
   have hbV : Below wr.heap.size wr V:=by rw [hV];exact za (Below.refl _ _) _
   have k0:=zz hVb 0;have k1:=zz hVb 1;have k2:=zz hVb 2;have k3:=zz hVb 3;have HBV:=zh (zC HB.out hbV);have HOV:=zh (yg HO.out hbV);have HZV:=zh (zD HZ.out hbV)
   go_wp2_with fail
   rw [← hV];simp only [← hgf];clear hgf
   go_at_call 19
   refine (F0a.calls k f.f0 t _ hT).mono ?_;rintro e w1 ⟨rfl,hd1⟩;have hb1:=hd1.below;have HV1:=zh (zD hVb hb1);have HB1:=zh (zC HBV.out hb1);have HO1:=zh (yg HOV.out hb1);have HZ1:=zh (zD HZV.out hb1);clear HBV HOV HZV HB HO HZ hx0 hx1 hx2 hx3 k0 k1 k2 k3 hd1 hb1 hVb hbV hV
   cases t with
   | false =>
    have h : (some (0,0,(⟨#[]⟩ : ByteArray),11) : Option (Int×Int×ByteArray×Int))=some (r1,r2,r3,r4):=by rw [if_neg jB] at h;exact h
    simp only [Option.some.injEq,Prod.mk.injEq] at h;obtain ⟨rfl,rfl,rfl,rfl⟩:=h;have q0:=zz HZ1.out 0;have q1:=zz HZ1.out 1;have q2:=zz HZ1.out 2;have f0:=zA HZ1.out 0;have f1:=zA HZ1.out 1;have f2:=zA HZ1.out 2;have hz4:=blk_set (blk_set (blk_set HZ1.out 0 (.int .i64 0)) 1 (.int .i64 0)) 2 (.string ⟨#[]⟩)
    go_wp2_with fail
    refine bodyPost_ret (results_ct rfl _ _ w.heap.size 25 #[.int .i64 0,.int .i64 0,.string ⟨#[]⟩] (0,0) _ rfl hz4 hu25 rfl jA) rfl ?_;exact ⟨rfl,zd (zd (zd HB1.out (ye _)) (ye _)) (ye _)⟩
   | true =>
   rw [if_pos rfl] at h;obtain ⟨u,hU,h⟩:=zT.mp h;have k0:=zz HV1.out 0;have k1:=zz HV1.out 1;have k2:=zz HV1.out 2;have k3:=zz HV1.out 3
   go_wp2_with fail
   go_at_call 20
   refine (Fr.calls k f.f1.f0 f.f1.f1 f.f1.f2 u _ hU).mono ?_;rintro e w2 ⟨rfl,hb2⟩;have HV2:=zh (zD HV1.out hb2);have HB2:=zh (zC HB1.out hb2);have HO2:=zh (yg HO1.out hb2);have HZ2:=zh (zD HZ1.out hb2);clear HB1 HO1 HZ1 HV1 k0 k1 k2 k3 hb2 hT hU
   cases u with
   | false =>
    have h : (some (0,0,(⟨#[]⟩ : ByteArray),1) : Option (Int×Int×ByteArray×Int))=some (r1,r2,r3,r4):=by rw [if_neg jB] at h;exact h
    simp only [Option.some.injEq,Prod.mk.injEq] at h;obtain ⟨rfl,rfl,rfl,rfl⟩:=h;have q0:=zz HZ2.out 0;have q1:=zz HZ2.out 1;have q2:=zz HZ2.out 2;have f0:=zA HZ2.out 0;have f1:=zA HZ2.out 1;have f2:=zA HZ2.out 2;have hz4:=blk_set (blk_set (blk_set HZ2.out 0 (.int .i64 0)) 1 (.int .i64 0)) 2 (.string ⟨#[]⟩)
    go_wp2_with fail
    refine bodyPost_ret (results_ct rfl _ _ w.heap.size 25 #[.int .i64 0,.int .i64 0,.string ⟨#[]⟩] (0,0) _ rfl hz4 hu25 rfl jA) rfl ?_;exact ⟨rfl,zd (zd (zd HB2.out (ye _)) (ye _)) (ye _)⟩
   | true =>
   rw [if_pos rfl] at h;obtain ⟨P,hP⟩ : ∃ P,P=F1.place out f.f0 out.length:=⟨_,rfl⟩;have HPL : P≤out.length:=hP ▸ F1.place_le out f.f0 out.length;have HPE:=zh hP.symm;clear hP;have HH:=zh h;clear h
   go_wp2_with fail
   go_loopg [7] out.length (fun kn v7 w' => ∃ (n : Nat),v7 = .int .i64 (n : Int)∧Aside0 (kn=n)∧Aside0 (n≤out.length∧F1.place out f.f0 n=P)∧Aside0 (Drawn0 w2 w'))
   case atStart=>exact ⟨out.length,rfl,⟨rfl⟩,⟨ye _,HPE.out⟩,⟨yp _⟩⟩
   case round =>
    obtain ⟨n,rfl,HN,HP,HD⟩:=hrel;have HV3:=zh (zD HV2.out HD.out.below);have HB3:=zh (zC HB2.out HD.out.below);have HO3:=zh (yg HO2.out HD.out.below);have HZ3:=zh (zD HZ2.out HD.out.below);have k0:=zz HV3.out 0;obtain ⟨hn,hp⟩:=HP.out;have hol : out.length≤300:=Nat.le_trans HL.out (Nat.le_trans (Nat.le_of_lt hil) hl300)
    by_cases hn0 : n=0
    ·
     subst hn0
     have hP0 : P=0:=hp.symm;subst hP0;clear hp hn
     go_wp2_with fail
     go_quiet (fail)
     go_wp2_with fail
     go_quiet (fail)
     go_wp2_with fail
     have HH0:=HH.out;rw [HPE.out] at HH0;rw [if_neg (fun h9=>absurd h9.1 (Nat.lt_irrefl 0))] at HH0;have HG1:=zh HH0;clear HH HH0;generalize hW0 : World.drewN (World.drewN wr _) _=W0;have HV4 : Aside0 (W0.heap[gf]? = some (.cells #[.string f.f0,.int .i64 f.f1.f0,.int .i64 f.f1.f1,.string f.f1.f2] 43 (0,0))):=⟨by rw [← hW0];exact HV3.out⟩;have HO4 : Aside0 (Kd.R k43 43 W0 w.heap.size (fun _=>True) (.slice A4 out.length c4) out):=⟨by rw [← hW0];exact zn (zn HO3.out _) _⟩;have HZ4 : Aside0 (W0.heap[w.heap.size]? = some (.cells #[.int .i64 0,.int .i64 0,.string ⟨#[]⟩] 25 (0,0))):=⟨by rw [← hW0];exact HZ3.out⟩;have HB4 : Aside0 (Below w.heap.size w W0):=⟨by rw [← hW0];exact zb (zb HB3.out _) _⟩;clear hW0 HV3 HO3 HZ3 HB3 HV2 HO2 HZ2 HB2 HD
     have hsrc1 : Kd.C k43 W0 A4 0 (out.take 0):=by
      have h9:=Kd.C_take (yh HO4.out).2.2 HPL
      rwa [zx,Nat.min_eq_left HPL] at h9
     have hsrc2:=Kd.C_drop (c:=c4) (m:=0) (yh HO4.out).2.2 HPL (yh HO4.out).2.1;rw [zw] at hsrc2;have hgf : gf<W0.heap.size:=yi HV4.out;have k0 : W0.cell? ⟨gf,0,none⟩=some (.string f.f0):=(zz HV4.out 0).trans rfl;have k1 : W0.cell? ⟨gf,1,none⟩=some (.int .i64 f.f1.f0):=(zz HV4.out 1).trans rfl;have k2 : W0.cell? ⟨gf,2,none⟩=some (.int .i64 f.f1.f1):=(zz HV4.out 2).trans rfl;have k3 : W0.cell? ⟨gf,3,none⟩=some (.string f.f1.f2):=(zz HV4.out 3).trans rfl;have hPc : 0≤c4:=Nat.le_trans HPL (yh HO4.out).2.1;have hw0 : w.heap.size≤W0.heap.size:=HB4.out.size;have hWl : ∀ W1,Below W0.heap.size W0 W1→Kd.C k43 W1 A4 0 (out.take 0):=fun W1 hb=>Kd.C_below hsrc1 hb;have hWd : ∀ W1,Below W0.heap.size W0 W1→Kd.C k43 W1 (if c4=0 then A4 else A4.map (·.add (0*4))) (out.length - 0) (out.drop 0):=fun W1 hb=>Kd.C_below hsrc2 hb
     have HF : Aside0 (F1.go k (l0.drop (i+1)) (out.take 0 ++ [f]++out.drop 0)=some (r1,r2,r3,r4)):=⟨by
      have h9:=HG1.out;unfold F1.ins at h9;rw [HPE.out] at h9
      exact h9⟩
     clear HG1 HPE
     by_cases hcP : c4=0
     ·
      rw [if_pos hcP] at hWd
      subst c4;clear hsrc1 hsrc2
      have hcell : ∀ W1,Below W0.heap.size W0 W1→(W1.cell? ⟨gf,0,none⟩=some (.string f.f0)∧W1.cell? ⟨gf,1,none⟩=some (.int .i64 f.f1.f0)∧W1.cell? ⟨gf,2,none⟩=some (.int .i64 f.f1.f1)∧W1.cell? ⟨gf,3,none⟩=some (.string f.f1.f2)) :=
       fun W1 hb=>⟨(hb.cell hgf).trans k0,(hb.cell hgf).trans k1,(hb.cell hgf).trans k2,(hb.cell hgf).trans k3⟩
      go_region_held3 (fun w' => w'.cell? ⟨gf,0,none⟩=some (.string f.f0)∧w'.cell? ⟨gf,1,none⟩=some (.int .i64 f.f1.f0)∧w'.cell? ⟨gf,2,none⟩=some (.int .i64 f.f1.f1)∧w'.cell? ⟨gf,3,none⟩=some (.string f.f1.f2))
       (exact hcell _ jX)
       (first
        | ((with_reducible refine F1.gate_step 72 rfl ?_);refine F1.gate_lit (.tmp 68) (.slice (some ⟨W0.heap.size+1,0,none⟩) 0 0) (by rfl) W0.heap.size (.cells #[.string f.f0,.int .i64 f.f1.f0,.int .i64 f.f1.f1,.string f.f1.f2] 43) (F1.two_c W0 (.cells #[] 43) _) ?_;intro HL0;refine Kd.R_append_rows_step k43 (w0:=W0) W0.heap.size (by rfl) (.tmp 68) (.tmp 71) 28 43 (.agg #[(.string ⟨#[]⟩),(.int .i64 0),(.int .i64 0),(.string ⟨#[]⟩)]) 48 (by rfl) Try.underlying28 info43 rfl jB jB (.slice (some ⟨W0.heap.size+1,0,none⟩) 0 0) [] (out.take 0) A4 0 0 (fun _=>True) (fun _=>False) (by rfl) (by rfl) jAP (hWl _ jX) (fun x cs h9=>F1.K_M x cs h9) (fun _ h9=>h9.elim) (fun _ _=>trivial) jX jAQ jAR ?_;intro v72 w72 hR72 hB72 hg72 hat72;have HLIT:=yw HL0 hg72 jAS)
        | ((with_reducible refine F1.gate_step 72 rfl ?_);refine F1.gate_lit (.tmp 68) (.slice (some ⟨W0.heap.size,0,none⟩) 0 0) (by rfl) (W0.heap.size+1) (.cells #[.string f.f0,.int .i64 f.f1.f0,.int .i64 f.f1.f1,.string f.f1.f2] 43) (F1.two_b W0 (.cells #[] 43) _) ?_;intro HL0;refine Kd.R_append_rows_step k43 (w0:=W0) W0.heap.size (by rfl) (.tmp 68) (.tmp 71) 28 43 (.agg #[(.string ⟨#[]⟩),(.int .i64 0),(.int .i64 0),(.string ⟨#[]⟩)]) 48 (by rfl) Try.underlying28 info43 rfl jB jB (.slice (some ⟨W0.heap.size,0,none⟩) 0 0) [] (out.take 0) A4 0 0 (fun _=>True) (fun _=>False) (by rfl) (by rfl) jAP (hWl _ jX) (fun x cs h9=>F1.K_M x cs h9) (fun _ h9=>h9.elim) (fun _ _=>trivial) jX jAQ jAR ?_;intro v72 w72 hR72 hB72 hg72 hat72;have HLIT:=yw HL0 hg72 jAS)
        | ((with_reducible refine F1.gate_step 72 rfl ?_);refine Kd.R_append_rows_step k43 (w0:=W0) W0.heap.size (by rfl) (.tmp 68) (.tmp 71) 28 43 (.agg #[(.string ⟨#[]⟩),(.int .i64 0),(.int .i64 0),(.string ⟨#[]⟩)]) 48 (by rfl) Try.underlying28 info43 rfl jB jB (.slice (some ⟨W0.heap.size,0,none⟩) 0 0) [] (out.take 0) A4 0 0 (fun _=>True) (fun _=>False) (by rfl) (by rfl) jAP (hWl _ jX) (fun x cs h9=>F1.K_M x cs h9) (fun _ h9=>h9.elim) (fun _ _=>trivial) jX jAQ jAR ?_;intro v72 w72 hR72 hB72 hg72 hat72)
        | ((with_reducible refine F1.gate_step 75 rfl ?_);refine Kd.R_append_rows_step k43 (w0:=W0) W0.heap.size (by rfl) (.tmp 72) (.tmp 74) 28 43 (.agg #[(.string ⟨#[]⟩),(.int .i64 0),(.int .i64 0),(.string ⟨#[]⟩)]) 48 (by rfl) Try.underlying28 info43 rfl jB jB v72 (out.take 0) [f] _ 1 1 (fun _=>True) (fun _=>False) (by rfl) (by rfl) jBp (F1.C_one f jBq) (fun x cs h9=>F1.K_M x cs h9) (fun _ h9=>h9.elim) (fun _ _=>trivial) jAT jBr (by rw [zx];omega) ?_;intro v75 w75 hR75 hB75 hg75 hat75)
        | ((with_reducible refine F1.gate_step 79 rfl ?_);refine Kd.R_append_rows_step k43 (w0:=W0) W0.heap.size (by rfl) (.tmp 75) (.tmp 78) 28 43 (.agg #[(.string ⟨#[]⟩),(.int .i64 0),(.int .i64 0),(.string ⟨#[]⟩)]) 48 (by rfl) Try.underlying28 info43 rfl jB jB v75 (out.take 0 ++ [f]) (out.drop 0) _ (out.length - 0) 0 (fun _=>True) (fun _=>False) (by rfl) (by rfl) jBs (hWd _ jAT) (fun x cs h9=>F1.K_M x cs h9) (fun _ h9=>h9.elim) (fun _ _=>trivial) jAT jBt jBu ?_;intro v79 w79 hR79 hB79 hg79 hat79))
      all_goals (
       go_wp2_with fail
       go_roundg kq
       case measure=>exact Nat.lt_succ_self _
       case rel=>exact ⟨i+1,_,by first|rfl|rw [hwi],⟨jBU⟩,HF,⟨jBv⟩,⟨yy hR79 hw0⟩,⟨zD HZ4.out hB79⟩,⟨zC HB4.out hB79⟩⟩)
     rcases F1.addr HO4.out with ⟨hA4,hc4⟩|⟨ga,hA4⟩
     ·
      exact absurd (Nat.le_antisymm (by rw [hc4];exact Nat.zero_le _) hPc) hcP
     cases hA4
     rw [if_neg hcP,show (some (⟨ga,0,none⟩ : Addr)).map (·.add (0*4))=some ⟨ga,0*4,none⟩ from congrArg some (add_plain _ _)] at hWd;clear hsrc1 hsrc2
     have hcell : ∀ W1,Below W0.heap.size W0 W1→(W1.cell? ⟨gf,0,none⟩=some (.string f.f0)∧W1.cell? ⟨gf,1,none⟩=some (.int .i64 f.f1.f0)∧W1.cell? ⟨gf,2,none⟩=some (.int .i64 f.f1.f1)∧W1.cell? ⟨gf,3,none⟩=some (.string f.f1.f2)) :=
      fun W1 hb=>⟨(hb.cell hgf).trans k0,(hb.cell hgf).trans k1,(hb.cell hgf).trans k2,(hb.cell hgf).trans k3⟩
     go_region_held3 (fun w' => w'.cell? ⟨gf,0,none⟩=some (.string f.f0)∧w'.cell? ⟨gf,1,none⟩=some (.int .i64 f.f1.f0)∧w'.cell? ⟨gf,2,none⟩=some (.int .i64 f.f1.f1)∧w'.cell? ⟨gf,3,none⟩=some (.string f.f1.f2))
      (exact hcell _ jX)
      (first
       | ((with_reducible refine F1.gate_step 72 rfl ?_);refine F1.gate_lit (.tmp 68) (.slice (some ⟨W0.heap.size+1,0,none⟩) 0 0) (by rfl) W0.heap.size (.cells #[.string f.f0,.int .i64 f.f1.f0,.int .i64 f.f1.f1,.string f.f1.f2] 43) (F1.two_c W0 (.cells #[] 43) _) ?_;intro HL0;refine Kd.R_append_rows_step k43 (w0:=W0) W0.heap.size (by rfl) (.tmp 68) (.tmp 71) 28 43 (.agg #[(.string ⟨#[]⟩),(.int .i64 0),(.int .i64 0),(.string ⟨#[]⟩)]) 48 (by rfl) Try.underlying28 info43 rfl jB jB (.slice (some ⟨W0.heap.size+1,0,none⟩) 0 0) [] (out.take 0) (some ⟨ga,0,none⟩) 0 c4 (fun _=>True) (fun _=>False) (by rfl) (by rfl) jAP (hWl _ jX) (fun x cs h9=>F1.K_M x cs h9) (fun _ h9=>h9.elim) (fun _ _=>trivial) jX jAQ jAR ?_;intro v72 w72 hR72 hB72 hg72 hat72;have HLIT:=yw HL0 hg72 jAS)
       | ((with_reducible refine F1.gate_step 72 rfl ?_);refine F1.gate_lit (.tmp 68) (.slice (some ⟨W0.heap.size,0,none⟩) 0 0) (by rfl) (W0.heap.size+1) (.cells #[.string f.f0,.int .i64 f.f1.f0,.int .i64 f.f1.f1,.string f.f1.f2] 43) (F1.two_b W0 (.cells #[] 43) _) ?_;intro HL0;refine Kd.R_append_rows_step k43 (w0:=W0) W0.heap.size (by rfl) (.tmp 68) (.tmp 71) 28 43 (.agg #[(.string ⟨#[]⟩),(.int .i64 0),(.int .i64 0),(.string ⟨#[]⟩)]) 48 (by rfl) Try.underlying28 info43 rfl jB jB (.slice (some ⟨W0.heap.size,0,none⟩) 0 0) [] (out.take 0) (some ⟨ga,0,none⟩) 0 c4 (fun _=>True) (fun _=>False) (by rfl) (by rfl) jAP (hWl _ jX) (fun x cs h9=>F1.K_M x cs h9) (fun _ h9=>h9.elim) (fun _ _=>trivial) jX jAQ jAR ?_;intro v72 w72 hR72 hB72 hg72 hat72;have HLIT:=yw HL0 hg72 jAS)
       | ((with_reducible refine F1.gate_step 72 rfl ?_);refine Kd.R_append_rows_step k43 (w0:=W0) W0.heap.size (by rfl) (.tmp 68) (.tmp 71) 28 43 (.agg #[(.string ⟨#[]⟩),(.int .i64 0),(.int .i64 0),(.string ⟨#[]⟩)]) 48 (by rfl) Try.underlying28 info43 rfl jB jB (.slice (some ⟨W0.heap.size,0,none⟩) 0 0) [] (out.take 0) (some ⟨ga,0,none⟩) 0 c4 (fun _=>True) (fun _=>False) (by rfl) (by rfl) jAP (hWl _ jX) (fun x cs h9=>F1.K_M x cs h9) (fun _ h9=>h9.elim) (fun _ _=>trivial) jX jAQ jAR ?_;intro v72 w72 hR72 hB72 hg72 hat72)
       | ((with_reducible refine F1.gate_step 75 rfl ?_);refine Kd.R_append_rows_step k43 (w0:=W0) W0.heap.size (by rfl) (.tmp 72) (.tmp 74) 28 43 (.agg #[(.string ⟨#[]⟩),(.int .i64 0),(.int .i64 0),(.string ⟨#[]⟩)]) 48 (by rfl) Try.underlying28 info43 rfl jB jB v72 (out.take 0) [f] _ 1 1 (fun _=>True) (fun _=>False) (by rfl) (by rfl) jBp (F1.C_one f jBq) (fun x cs h9=>F1.K_M x cs h9) (fun _ h9=>h9.elim) (fun _ _=>trivial) jAT jBr (by rw [zx];omega) ?_;intro v75 w75 hR75 hB75 hg75 hat75)
       | ((with_reducible refine F1.gate_step 79 rfl ?_);refine Kd.R_append_rows_step k43 (w0:=W0) W0.heap.size (by rfl) (.tmp 75) (.tmp 78) 28 43 (.agg #[(.string ⟨#[]⟩),(.int .i64 0),(.int .i64 0),(.string ⟨#[]⟩)]) 48 (by rfl) Try.underlying28 info43 rfl jB jB v75 (out.take 0 ++ [f]) (out.drop 0) _ (out.length - 0) (c4 - 0) (fun _=>True) (fun _=>False) (by rfl) (by rfl) jBs (hWd _ jAT) (fun x cs h9=>F1.K_M x cs h9) (fun _ h9=>h9.elim) (fun _ _=>trivial) jAT jBt jBu ?_;intro v79 w79 hR79 hB79 hg79 hat79))
     all_goals (
      go_wp2_with fail
      go_roundg kq
      case measure=>exact Nat.lt_succ_self _
      case rel=>exact ⟨i+1,_,by first|rfl|rw [hwi],⟨jBU⟩,HF,⟨jBv⟩,⟨yy hR79 hw0⟩,⟨zD HZ4.out hB79⟩,⟨zC HB4.out hB79⟩⟩)
    obtain ⟨m,hm⟩ : ∃ m,n=m+1:=⟨n - 1,jH⟩;have hml : m<out.length:=by omega
    have c5 : decide ((0 : Int)<(n : Int))=true:=decide_eq_true jH;have c5n : decide (0<n)=true:=decide_eq_true jH;have hw5 : IntKind.i64.wrap ((n : Int) - 1)=(m : Int):=by rw [IntKind.wrap_i64,hm];omega
    have hm0 : (0≤(m : Int))=True:=eq_true (Int.natCast_nonneg m);have hmlt : ((m : Int)<(out.length : Int))=True:=eq_true (Int.ofNat_lt.2 hml);obtain ⟨ao,hAo,hy0,hy1,hy2,hy3⟩:=at_T43 (yh HO3.out).2.2 (m : Int) (Int.natCast_nonneg m) (Int.ofNat_lt.2 hml);subst hAo;rw [Int.toNat_natCast] at hy0;have hpm : F1.place out f.f0 (m+1)=P:=by rw [← hm];exact hp
    unfold F1.place at hpm;clear hp hy1 hy2 hy3
    by_cases c6 : Op.bytesLess f.f0.toList (rd_T43 out (m : Int)).f0.toList=true
    ·
     rw [if_pos c6] at hpm
     have HPm:=zh hpm;clear hpm
     go_wp2_with fail
     go_quiet (fail)
     go_wp2_with fail
     go_roundg m
     case measure=>have:=HN.out;omega
     case rel=>exact ⟨m,by first|rfl|rw [hw5],⟨rfl⟩,⟨jH,HPm.out⟩,⟨HD.out.step _⟩⟩
    rw [if_neg c6] at hpm;have c6b : Op.bytesLess f.f0.toList (rd_T43 out (m : Int)).f0.toList=false:=by simpa using c6
    have hPn : P=n:=by omega
    clear hpm;subst P;have hi9 : ((n : Int) - 1)=(m : Int):=by omega
    have HH0:=HH.out;rw [HPE.out,hi9] at HH0;clear hi9 c6 HH
    by_cases c7 : (rd_T43 out (m : Int)).f0.toList=f.f0.toList
    ·
     rw [if_pos ⟨jH,c7⟩] at HH0
     have c7b : ((rd_T43 out (m : Int)).f0.toList == f.f0.toList)=true:=ya.mpr c7;clear c7;simp only [Option.some.injEq,Prod.mk.injEq] at HH0;obtain ⟨rfl,rfl,rfl,rfl⟩:=HH0;have q0:=zz HZ3.out 0;have q1:=zz HZ3.out 1;have q2:=zz HZ3.out 2;have f0:=zA HZ3.out 0;have f1:=zA HZ3.out 1;have f2:=zA HZ3.out 2
     go_wp2_with fail
     go_quiet (fail)
     go_wp2_with fail
     go_quiet (fail)
     generalize hWW : World.drewN (World.drewN wr _) _=WW;have HZW : Aside0 (WW.heap[w.heap.size]? = some (.cells #[.int .i64 0,.int .i64 0,.string ⟨#[]⟩] 25 (0,0))):=⟨by rw [← hWW];exact HZ3.out⟩;have HBW : Aside0 (Below w.heap.size w WW):=⟨by rw [← hWW];exact zb (zb HB3.out _) _⟩;clear hWW q0 q1 q2 f0 f1 f2;have q0:=zz HZW.out 0;have q1:=zz HZW.out 1;have q2:=zz HZW.out 2;have f0:=zA HZW.out 0;have f1:=zA HZW.out 1;have f2:=zA HZW.out 2
     go_wp2_with fail
     refine bodyPost_ret (results_ct rfl _ _ w.heap.size 25 #[.int .i64 0,.int .i64 0,.string ⟨#[]⟩] (0,0) _ rfl (blk_set (blk_set (blk_set HZW.out 0 (.int .i64 0)) 1 (.int .i64 0)) 2 (.string ⟨#[]⟩)) hu25 rfl jA) rfl ?_;exact ⟨rfl,zd (zd (zd HBW.out (ye _)) (ye _)) (ye _)⟩
    rw [if_neg (fun h9=>c7 h9.2)] at HH0;have c7b : ((rd_T43 out (m : Int)).f0.toList == f.f0.toList)=false:=zY.mpr c7;have HG1:=zh HH0;clear HH0 hm c7;have hn1 : (0 : Int)≤(n : Int):=Int.natCast_nonneg n;have hn2 : (n : Int)≤(out.length : Int):=Int.ofNat_le.2 hn;have hn3 : (n : Int)≤(c4 : Int):=Int.ofNat_le.2 (Nat.le_trans hn (yh HO3.out).2.1)
    go_wp2_with fail
    go_quiet (fail)
    go_wp2_with fail
    go_quiet (fail)
    go_wp2_with fail
    generalize hW0 : World.drewN (World.drewN wr _) _=W0;have HV4 : Aside0 (W0.heap[gf]? = some (.cells #[.string f.f0,.int .i64 f.f1.f0,.int .i64 f.f1.f1,.string f.f1.f2] 43 (0,0))):=⟨by rw [← hW0];exact HV3.out⟩;have HO4 : Aside0 (Kd.R k43 43 W0 w.heap.size (fun _=>True) (.slice (some ao) out.length c4) out):=⟨by rw [← hW0];exact zn (zn HO3.out _) _⟩;have HZ4 : Aside0 (W0.heap[w.heap.size]? = some (.cells #[.int .i64 0,.int .i64 0,.string ⟨#[]⟩] 25 (0,0))):=⟨by rw [← hW0];exact HZ3.out⟩;have HB4 : Aside0 (Below w.heap.size w W0):=⟨by rw [← hW0];exact zb (zb HB3.out _) _⟩;clear hW0 HV3 HO3 HZ3 HB3 HV2 HO2 HZ2 HB2 HD
    have hsrc1 : Kd.C k43 W0 (some ao) n (out.take n):=by
     have h9:=Kd.C_take (yh HO4.out).2.2 HPL
     rwa [zx,Nat.min_eq_left HPL] at h9
    have hsrc2:=Kd.C_drop (c:=c4) (m:=n) (yh HO4.out).2.2 HPL (yh HO4.out).2.1;rw [zw] at hsrc2;have hgf : gf<W0.heap.size:=yi HV4.out;have k0 : W0.cell? ⟨gf,0,none⟩=some (.string f.f0):=(zz HV4.out 0).trans rfl;have k1 : W0.cell? ⟨gf,1,none⟩=some (.int .i64 f.f1.f0):=(zz HV4.out 1).trans rfl;have k2 : W0.cell? ⟨gf,2,none⟩=some (.int .i64 f.f1.f1):=(zz HV4.out 2).trans rfl;have k3 : W0.cell? ⟨gf,3,none⟩=some (.string f.f1.f2):=(zz HV4.out 3).trans rfl;have hPc : n≤c4:=Nat.le_trans HPL (yh HO4.out).2.1;have hw0 : w.heap.size≤W0.heap.size:=HB4.out.size;have hWl : ∀ W1,Below W0.heap.size W0 W1→Kd.C k43 W1 (some ao) n (out.take n):=fun W1 hb=>Kd.C_below hsrc1 hb;have hWd : ∀ W1,Below W0.heap.size W0 W1→Kd.C k43 W1 (if c4=n then (some ao) else (some ao).map (·.add (n*4))) (out.length - n) (out.drop n):=fun W1 hb=>Kd.C_below hsrc2 hb
    have HF : Aside0 (F1.go k (l0.drop (i+1)) (out.take n ++ [f]++out.drop n)=some (r1,r2,r3,r4)):=⟨by
     have h9:=HG1.out;unfold F1.ins at h9;rw [HPE.out] at h9
     exact h9⟩
    clear HG1 HPE
    by_cases hcP : c4=n
    ·
     rw [if_pos hcP] at hWd
     subst c4;clear hsrc1 hsrc2
     have hcell : ∀ W1,Below W0.heap.size W0 W1→(W1.cell? ⟨gf,0,none⟩=some (.string f.f0)∧W1.cell? ⟨gf,1,none⟩=some (.int .i64 f.f1.f0)∧W1.cell? ⟨gf,2,none⟩=some (.int .i64 f.f1.f1)∧W1.cell? ⟨gf,3,none⟩=some (.string f.f1.f2)) :=
      fun W1 hb=>⟨(hb.cell hgf).trans k0,(hb.cell hgf).trans k1,(hb.cell hgf).trans k2,(hb.cell hgf).trans k3⟩
     go_region_held3 (fun w' => w'.cell? ⟨gf,0,none⟩=some (.string f.f0)∧w'.cell? ⟨gf,1,none⟩=some (.int .i64 f.f1.f0)∧w'.cell? ⟨gf,2,none⟩=some (.int .i64 f.f1.f1)∧w'.cell? ⟨gf,3,none⟩=some (.string f.f1.f2))
      (exact hcell _ jX)
      (first
       | ((with_reducible refine F1.gate_step 72 rfl ?_);refine F1.gate_lit (.tmp 68) (.slice (some ⟨W0.heap.size+1,0,none⟩) 0 0) (by rfl) W0.heap.size (.cells #[.string f.f0,.int .i64 f.f1.f0,.int .i64 f.f1.f1,.string f.f1.f2] 43) (F1.two_c W0 (.cells #[] 43) _) ?_;intro HL0;refine Kd.R_append_rows_step k43 (w0:=W0) W0.heap.size (by rfl) (.tmp 68) (.tmp 71) 28 43 (.agg #[(.string ⟨#[]⟩),(.int .i64 0),(.int .i64 0),(.string ⟨#[]⟩)]) 48 (by rfl) Try.underlying28 info43 rfl jB jB (.slice (some ⟨W0.heap.size+1,0,none⟩) 0 0) [] (out.take n) (some ao) n n (fun _=>True) (fun _=>False) (by rfl) (by rfl) jAP (hWl _ jX) (fun x cs h9=>F1.K_M x cs h9) (fun _ h9=>h9.elim) (fun _ _=>trivial) jX jAQ jAR ?_;intro v72 w72 hR72 hB72 hg72 hat72;have HLIT:=yw HL0 hg72 jAS)
       | ((with_reducible refine F1.gate_step 72 rfl ?_);refine F1.gate_lit (.tmp 68) (.slice (some ⟨W0.heap.size,0,none⟩) 0 0) (by rfl) (W0.heap.size+1) (.cells #[.string f.f0,.int .i64 f.f1.f0,.int .i64 f.f1.f1,.string f.f1.f2] 43) (F1.two_b W0 (.cells #[] 43) _) ?_;intro HL0;refine Kd.R_append_rows_step k43 (w0:=W0) W0.heap.size (by rfl) (.tmp 68) (.tmp 71) 28 43 (.agg #[(.string ⟨#[]⟩),(.int .i64 0),(.int .i64 0),(.string ⟨#[]⟩)]) 48 (by rfl) Try.underlying28 info43 rfl jB jB (.slice (some ⟨W0.heap.size,0,none⟩) 0 0) [] (out.take n) (some ao) n n (fun _=>True) (fun _=>False) (by rfl) (by rfl) jAP (hWl _ jX) (fun x cs h9=>F1.K_M x cs h9) (fun _ h9=>h9.elim) (fun _ _=>trivial) jX jAQ jAR ?_;intro v72 w72 hR72 hB72 hg72 hat72;have HLIT:=yw HL0 hg72 jAS)
       | ((with_reducible refine F1.gate_step 72 rfl ?_);refine Kd.R_append_rows_step k43 (w0:=W0) W0.heap.size (by rfl) (.tmp 68) (.tmp 71) 28 43 (.agg #[(.string ⟨#[]⟩),(.int .i64 0),(.int .i64 0),(.string ⟨#[]⟩)]) 48 (by rfl) Try.underlying28 info43 rfl jB jB (.slice (some ⟨W0.heap.size,0,none⟩) 0 0) [] (out.take n) (some ao) n n (fun _=>True) (fun _=>False) (by rfl) (by rfl) jAP (hWl _ jX) (fun x cs h9=>F1.K_M x cs h9) (fun _ h9=>h9.elim) (fun _ _=>trivial) jX jAQ jAR ?_;intro v72 w72 hR72 hB72 hg72 hat72)
       | ((with_reducible refine F1.gate_step 75 rfl ?_);refine Kd.R_append_rows_step k43 (w0:=W0) W0.heap.size (by rfl) (.tmp 72) (.tmp 74) 28 43 (.agg #[(.string ⟨#[]⟩),(.int .i64 0),(.int .i64 0),(.string ⟨#[]⟩)]) 48 (by rfl) Try.underlying28 info43 rfl jB jB v72 (out.take n) [f] _ 1 1 (fun _=>True) (fun _=>False) (by rfl) (by rfl) jBp (F1.C_one f jBq) (fun x cs h9=>F1.K_M x cs h9) (fun _ h9=>h9.elim) (fun _ _=>trivial) jAT jBr (by rw [zx];omega) ?_;intro v75 w75 hR75 hB75 hg75 hat75)
       | ((with_reducible refine F1.gate_step 79 rfl ?_);refine Kd.R_append_rows_step k43 (w0:=W0) W0.heap.size (by rfl) (.tmp 75) (.tmp 78) 28 43 (.agg #[(.string ⟨#[]⟩),(.int .i64 0),(.int .i64 0),(.string ⟨#[]⟩)]) 48 (by rfl) Try.underlying28 info43 rfl jB jB v75 (out.take n ++ [f]) (out.drop n) _ (out.length - n) 0 (fun _=>True) (fun _=>False) (by rfl) (by rfl) jBs (hWd _ jAT) (fun x cs h9=>F1.K_M x cs h9) (fun _ h9=>h9.elim) (fun _ _=>trivial) jAT jBt jBu ?_;intro v79 w79 hR79 hB79 hg79 hat79))
     all_goals (
      go_wp2_with fail
      go_roundg kq
      case measure=>exact Nat.lt_succ_self _
      case rel=>exact ⟨i+1,_,by first|rfl|rw [hwi],⟨jBU⟩,HF,⟨jBv⟩,⟨yy hR79 hw0⟩,⟨zD HZ4.out hB79⟩,⟨zC HB4.out hB79⟩⟩)
    rcases F1.addr HO4.out with ⟨hA4,hc4⟩|⟨ga,hA4⟩
    ·
     exact absurd (Nat.le_antisymm (by rw [hc4];exact Nat.zero_le _) hPc) hcP
    cases hA4
    rw [if_neg hcP,show (some (⟨ga,0,none⟩ : Addr)).map (·.add (n*4))=some ⟨ga,n*4,none⟩ from congrArg some (add_plain _ _)] at hWd;clear hsrc1 hsrc2
    have hcell : ∀ W1,Below W0.heap.size W0 W1→(W1.cell? ⟨gf,0,none⟩=some (.string f.f0)∧W1.cell? ⟨gf,1,none⟩=some (.int .i64 f.f1.f0)∧W1.cell? ⟨gf,2,none⟩=some (.int .i64 f.f1.f1)∧W1.cell? ⟨gf,3,none⟩=some (.string f.f1.f2)) :=
     fun W1 hb=>⟨(hb.cell hgf).trans k0,(hb.cell hgf).trans k1,(hb.cell hgf).trans k2,(hb.cell hgf).trans k3⟩
    go_region_held3 (fun w' => w'.cell? ⟨gf,0,none⟩=some (.string f.f0)∧w'.cell? ⟨gf,1,none⟩=some (.int .i64 f.f1.f0)∧w'.cell? ⟨gf,2,none⟩=some (.int .i64 f.f1.f1)∧w'.cell? ⟨gf,3,none⟩=some (.string f.f1.f2))
     (exact hcell _ jX)
     (first
      | ((with_reducible refine F1.gate_step 72 rfl ?_);refine F1.gate_lit (.tmp 68) (.slice (some ⟨W0.heap.size+1,0,none⟩) 0 0) (by rfl) W0.heap.size (.cells #[.string f.f0,.int .i64 f.f1.f0,.int .i64 f.f1.f1,.string f.f1.f2] 43) (F1.two_c W0 (.cells #[] 43) _) ?_;intro HL0;refine Kd.R_append_rows_step k43 (w0:=W0) W0.heap.size (by rfl) (.tmp 68) (.tmp 71) 28 43 (.agg #[(.string ⟨#[]⟩),(.int .i64 0),(.int .i64 0),(.string ⟨#[]⟩)]) 48 (by rfl) Try.underlying28 info43 rfl jB jB (.slice (some ⟨W0.heap.size+1,0,none⟩) 0 0) [] (out.take n) (some ⟨ga,0,none⟩) n c4 (fun _=>True) (fun _=>False) (by rfl) (by rfl) jAP (hWl _ jX) (fun x cs h9=>F1.K_M x cs h9) (fun _ h9=>h9.elim) (fun _ _=>trivial) jX jAQ jAR ?_;intro v72 w72 hR72 hB72 hg72 hat72;have HLIT:=yw HL0 hg72 jAS)
      | ((with_reducible refine F1.gate_step 72 rfl ?_);refine F1.gate_lit (.tmp 68) (.slice (some ⟨W0.heap.size,0,none⟩) 0 0) (by rfl) (W0.heap.size+1) (.cells #[.string f.f0,.int .i64 f.f1.f0,.int .i64 f.f1.f1,.string f.f1.f2] 43) (F1.two_b W0 (.cells #[] 43) _) ?_;intro HL0;refine Kd.R_append_rows_step k43 (w0:=W0) W0.heap.size (by rfl) (.tmp 68) (.tmp 71) 28 43 (.agg #[(.string ⟨#[]⟩),(.int .i64 0),(.int .i64 0),(.string ⟨#[]⟩)]) 48 (by rfl) Try.underlying28 info43 rfl jB jB (.slice (some ⟨W0.heap.size,0,none⟩) 0 0) [] (out.take n) (some ⟨ga,0,none⟩) n c4 (fun _=>True) (fun _=>False) (by rfl) (by rfl) jAP (hWl _ jX) (fun x cs h9=>F1.K_M x cs h9) (fun _ h9=>h9.elim) (fun _ _=>trivial) jX jAQ jAR ?_;intro v72 w72 hR72 hB72 hg72 hat72;have HLIT:=yw HL0 hg72 jAS)
      | ((with_reducible refine F1.gate_step 72 rfl ?_);refine Kd.R_append_rows_step k43 (w0:=W0) W0.heap.size (by rfl) (.tmp 68) (.tmp 71) 28 43 (.agg #[(.string ⟨#[]⟩),(.int .i64 0),(.int .i64 0),(.string ⟨#[]⟩)]) 48 (by rfl) Try.underlying28 info43 rfl jB jB (.slice (some ⟨W0.heap.size,0,none⟩) 0 0) [] (out.take n) (some ⟨ga,0,none⟩) n c4 (fun _=>True) (fun _=>False) (by rfl) (by rfl) jAP (hWl _ jX) (fun x cs h9=>F1.K_M x cs h9) (fun _ h9=>h9.elim) (fun _ _=>trivial) jX jAQ jAR ?_;intro v72 w72 hR72 hB72 hg72 hat72)
      | ((with_reducible refine F1.gate_step 75 rfl ?_);refine Kd.R_append_rows_step k43 (w0:=W0) W0.heap.size (by rfl) (.tmp 72) (.tmp 74) 28 43 (.agg #[(.string ⟨#[]⟩),(.int .i64 0),(.int .i64 0),(.string ⟨#[]⟩)]) 48 (by rfl) Try.underlying28 info43 rfl jB jB v72 (out.take n) [f] _ 1 1 (fun _=>True) (fun _=>False) (by rfl) (by rfl) jBp (F1.C_one f jBq) (fun x cs h9=>F1.K_M x cs h9) (fun _ h9=>h9.elim) (fun _ _=>trivial) jAT jBr (by rw [zx];omega) ?_;intro v75 w75 hR75 hB75 hg75 hat75)
      | ((with_reducible refine F1.gate_step 79 rfl ?_);refine Kd.R_append_rows_step k43 (w0:=W0) W0.heap.size (by rfl) (.tmp 75) (.tmp 78) 28 43 (.agg #[(.string ⟨#[]⟩),(.int .i64 0),(.int .i64 0),(.string ⟨#[]⟩)]) 48 (by rfl) Try.underlying28 info43 rfl jB jB v75 (out.take n ++ [f]) (out.drop n) _ (out.length - n) (c4 - n) (fun _=>True) (fun _=>False) (by rfl) (by rfl) jBs (hWd _ jAT) (fun x cs h9=>F1.K_M x cs h9) (fun _ h9=>h9.elim) (fun _ _=>trivial) jAT jBt jBu ?_;intro v79 w79 hR79 hB79 hg79 hat79))
    all_goals (
     go_wp2_with fail
     go_roundg kq
     case measure=>exact Nat.lt_succ_self _
     case rel=>exact ⟨i+1,_,by first|rfl|rw [hwi],⟨jBU⟩,HF,⟨jBv⟩,⟨yy hR79 hw0⟩,⟨zD HZ4.out hB79⟩,⟨zC HB4.out hB79⟩⟩)
  have hieq : i=l0.length:=by have:=HI.out;omega
  subst hieq;have c3 : decide ((l0.length : Int)<(l0.length : Int))=false:=decide_eq_false (Int.lt_irrefl _);have h:=HG.out;rw [List.drop_length] at h;clear HG;unfold F1.go at h;obtain ⟨⟨d1,d2,d3⟩,hD,h⟩:=zT.mp h;obtain ⟨⟨q1,q2,q3,q4⟩,hF,h⟩:=zT.mp h;simp only [Option.some.injEq,Prod.mk.injEq] at h;obtain ⟨rfl,rfl,rfl,rfl⟩:=h
  go_wp2_with fail
  go_at_call 22
  refine (Fa.calls k A4 c4 out d1 d2 d3 _ (yh HO.out).2.2 (yh HO.out).2.1 hD).mono ?_;rintro e w1 ⟨rfl,hb1⟩;have HB1:=zh (zC HB.out hb1);have HZ1:=zh (zD HZ.out hb1);clear HB HZ HO hb1 hD
  go_wp2_with fail
  go_at_call 21
  refine (F0g.calls k d1 d2 d3 q1 q2 q3 q4 _ hF).mono ?_;rintro e w2 ⟨rfl,hb2⟩;have HB2:=zh (zC HB1.out hb2);have HZ2:=zh (zD HZ1.out hb2);clear HB1 HZ1 hb2 hF;have k0:=zz HZ2.out 0;have k1:=zz HZ2.out 1;have k2:=zz HZ2.out 2;have f0:=zA HZ2.out 0;have f1:=zA HZ2.out 1;have f2:=zA HZ2.out 2
  go_wp2_with fail
  refine bodyPost_ret (results_ct rfl _ _ w.heap.size 25 #[.int .i64 q1,.int .i64 q2,.string q3] (0,0) _ rfl (blk_set (blk_set (blk_set HZ2.out 0 (.int .i64 q1)) 1 (.int .i64 q2)) 2 (.string q3)) hu25 rfl jA) rfl ?_;exact ⟨rfl,zd (zd (zd HB2.out (ye _)) (ye _)) (ye _)⟩


def strings_Compare.f (a0 : ByteArray) (a1 : ByteArray) : Option (Int):=some (Lib.compareBytes a0.data.toList a1.data.toList)
set_option maxHeartbeats 1000000 in
set_option maxRecDepth 100000 in
theorem strings_Compare.inner (a b : ByteArray) (w : World) :
  Calls Try.prog 66 #[.string a,.string b] w fun e w' => e = .returned (.int .i64 (Lib.compareBytes a.data.toList b.data.toList))∧w' = w:=by
 go_enter Try.func66,Try.ntmps66
 go_wp2
 rw [run_callFunc_extern Try.func84 jA jA jA (e:=Extern.BytealgCompare.compare) jA,Lib.run_compareString];simp only [Result.andThen];rw [Oper.upon_value]
 go_wp2
 go_ret
 exact ⟨rfl,rfl⟩
set_option maxHeartbeats 1000000 in
theorem strings_Compare.calls (a0 : ByteArray) (a1 : ByteArray) (r : Int) (w : World) (h : strings_Compare.f a0 a1=some r) :
  Calls Try.prog 46 #[.string a0,.string a1] w fun e w' => e = .returned (.int .i64 r)∧Drawn0 w w':=by
 have h' : (some (Lib.compareBytes a0.data.toList a1.data.toList))=some r:=h;obtain rfl:=zU h';clear h h'
 go_enter Try.func46,Try.ntmps46
 go_wp2_with (go_at_call 66;refine (strings_Compare.inner _ _ _).mono ?_;rintro e w' ⟨rfl,rfl⟩)
 go_ret
 exact ⟨rfl,yp _⟩


def F0l.f (a0_0 : ByteArray) (a0_1 : Int) (a0_2 : Int) (a0_3 : ByteArray) (a1 : ByteArray) : Option (Int):=(strings_Compare.f a0_0 a1).bind fun t210=>(some t210)
set_option maxHeartbeats 8000000 in
set_option maxRecDepth 100000 in
theorem F0l.calls (a0_0 : ByteArray) (a0_1 : Int) (a0_2 : Int) (a0_3 : ByteArray) (a1 : ByteArray) (r : Int) (w : World) (h : F0l.f a0_0 a0_1 a0_2 a0_3 a1=some r) :
  Calls Try.prog 45 #[.agg #[.string a0_0,.int .i64 a0_1,.int .i64 a0_2,.string a0_3],.string a1] w fun e w' => e = .returned (.int .i64 r)∧Below w.heap.size w w':=by
 have hu43:=Try.underlying43;have HB:=zh (Below.refl w.heap.size w);have H : ((strings_Compare.f a0_0 a1).bind fun t210=>(some t210))=some r:=h;clear h;replace H:=zT.mp H;obtain ⟨t210,A30,H⟩:=H;have A3:=zh A30;clear A30;obtain rfl:=zU H
 go_enter Try.func45,Try.ntmps45
 go_wp2_with (first|((with_reducible refine zK (N:=2) rfl ?_);refine zI ?hg (N:=2) ?hd (cs:=#[.string a0_0,.int .i64 a0_1,.int .i64 a0_2,.string a0_3]) (t:=43) ?hr ?_;(case hd=>rfl);(case hg=>rfl);(case hr=>go_simp <;> rfl);intro gb209 hg w4 hbox hb;have BK209:=zh (hbox);have hH_:=cH jG hb hg;have GW209:=zh hH_.1;have GE209:=GW209;replace HB:=zh hH_.2;clear hb hbox hg hH_;obtain ⟨hcz5_0,hcz5_1,hcz5_2,hcz5_3,hfz5_0,hfz5_1,hfz5_2,hfz5_3⟩:=cB4 BK209.out)|((with_reducible refine zJ (f:=46) rfl ?_);refine yj (some 8) rfl rfl Try.func46 jA rfl #[.string a0_0,.string a1] rfl jD ?_;(with_reducible refine (strings_Compare.calls  a0_0 a1 t210 _ A3.out).mono ?_);rintro e w' ⟨rfl,⟨nd,rfl⟩⟩;refine ⟨_,rfl,?_⟩))
 go_ret
 exact ⟨jF,by repeat (with_reducible first|exact HB.out|apply za|apply zb|apply zc|refine zd ?_ GE209.out)⟩


def Fs.l0 : Nat→List (S43)→ByteArray→Int→Int→Int→Option (Int×Bool)
 | 0,_,_,_,_,_=>none
 | k+1,x0,x1,x8,x9,x10=>if x9<x10 then (if 0≤(wrap64 ((IntKind.u64.wrap (wrap64 (x9+x10))) / 2)) then (if (wrap64 ((IntKind.u64.wrap (wrap64 (x9+x10))) / 2))<(x0.length : Int) then ((F0l.f ((rd_T43 x0 (wrap64 ((IntKind.u64.wrap (wrap64 (x9+x10))) / 2))).f0) ((rd_T43 x0 (wrap64 ((IntKind.u64.wrap (wrap64 (x9+x10))) / 2))).f1.f0) ((rd_T43 x0 (wrap64 ((IntKind.u64.wrap (wrap64 (x9+x10))) / 2))).f1.f1) ((rd_T43 x0 (wrap64 ((IntKind.u64.wrap (wrap64 (x9+x10))) / 2))).f1.f2) x1).bind fun t212=>(if t212<0 then (Fs.l0 k x0 x1 x8 (wrap64 ((wrap64 ((IntKind.u64.wrap (wrap64 (x9+x10))) / 2))+1)) x10) else (Fs.l0 k x0 x1 x8 x9 (wrap64 ((IntKind.u64.wrap (wrap64 (x9+x10))) / 2))))) else (none)) else (none)) else (if x9<x8 then (if 0≤x9 then (if x9<(x0.length : Int) then ((F0l.f ((rd_T43 x0 x9).f0) ((rd_T43 x0 x9).f1.f0) ((rd_T43 x0 x9).f1.f1) ((rd_T43 x0 x9).f1.f2) x1).bind fun t214=>(some (x9,(t214 == 0)))) else (none)) else (none)) else (some (x9,false)))
def Fs.f (k : Nat) (l0 : List (S43)) (a1 : ByteArray)  : Option (Int×Bool):=Fs.l0 k l0 a1 (l0.length : Int) 0 (l0.length : Int)
theorem Fs.mono_l : ∀ k,(∀ y0 y1 y2 y3 y4,LeO (Fs.l0 k y0 y1 y2 y3 y4) (Fs.l0 (k+1) y0 y1 y2 y3 y4))
 | 0=>fun _ _ _ _ _ r h=>by simp [Fs.l0] at h
 | k+1=>by
  have ih0:=Fs.mono_l k;intro y0 y1 y2 y3 y4;unfold Fs.l0
  repeat' first|(with_reducible first|exact ih0 _ _ _ _ _|exact zQ _|exact zN _|refine zP ?_ ?_|refine zO ?_ (fun _=>?_))|refine zP ?_ ?_|refine zO ?_ (fun _=>?_)
theorem Fs.mono : ∀ a0 a1 k,LeO (Fs.f k a0 a1) (Fs.f (k+1) a0 a1):=by
 intro a0 a1 k;have ih0:=Fs.mono_l k;unfold Fs.f
 repeat' first|(with_reducible first|exact ih0 _ _ _ _ _|exact zQ _|exact zN _|refine zP ?_ ?_|refine zO ?_ (fun _=>?_))|refine zP ?_ ?_|refine zO ?_ (fun _=>?_)
set_option maxHeartbeats 8000000 in
set_option maxRecDepth 100000 in
theorem Fs.calls (k : Nat) (A0 : Option Addr) (c0 : Nat) (l0 : List (S43)) (a1 : ByteArray)  (r1 : Int) (r2 : Bool) (w : World) (hr0 : Kd.C k43 w A0 l0.length l0) (hc0 : l0.length≤c0) (h : Fs.f k l0 a1=some (r1,r2)) :
  Calls Try.prog 44 #[.slice A0 l0.length c0,.string a1,.func (.func 45) #[] #[]] w fun e w' => e = .returned (.tuple #[.int .i64 r1,.bool r2])∧Below w.heap.size w w':=by
 have hu43:=Try.underlying43;have HR0:=zh hr0;have HC0:=zh hc0;clear hr0 hc0;have HB:=zh (Below.refl w.heap.size w);have H : (Fs.l0 k l0 a1 (l0.length : Int) 0 (l0.length : Int))=some (r1,r2):=h;clear h;have H':=zh H;clear H
 go_enter Try.func44,Try.ntmps44
 go_wp2
 go_loopg [9,10] k (fun kq v9 v10 w' => ∃ (x9_1 : Int) (x10_1 : Int),v9 = .int .i64 x9_1∧v10 = .int .i64 x10_1∧Aside0 (Fs.l0 kq l0 a1 (l0.length : Int) x9_1 x10_1=some (r1,r2))∧Aside0 (kq≤k)∧Aside0 (Below w.heap.size w w'))
 case atStart=>exact ⟨(0),((l0.length : Int)),jC,jC,H',⟨ye _⟩,⟨jG⟩⟩
 case round =>
  clear H'
  try clear p2
  obtain ⟨x9_1,x10_1,rfl,rfl,HA,HK1,HB⟩:=hrel
  cases gk with
  | zero=>exact absurd HA.out (by simp [Fs.l0])
  | succ k1 =>
   have H:=HA.out;clear HA;simp only [Fs.l0] at H
   by_cases c4 : x9_1<x10_1
   ·
    rw [if_pos c4] at H
    have c4b0 : decide (x9_1<x10_1)=true:=decide_eq_true c4;clear c4;obtain ⟨ji5,hji5⟩ : ∃ j_ : Int,(wrap64 ((IntKind.u64.wrap (wrap64 (x9_1+x10_1))) / 2))=j_:=⟨_,rfl⟩;replace H : (if 0≤(ji5) then (if (ji5)<(l0.length : Int) then ((F0l.f ((rd_T43 l0 (ji5)).f0) ((rd_T43 l0 (ji5)).f1.f0) ((rd_T43 l0 (ji5)).f1.f1) ((rd_T43 l0 (ji5)).f1.f2) a1).bind fun t212=>(if t212<0 then (Fs.l0 k1 l0 a1 (l0.length : Int) (wrap64 ((ji5)+1)) x10_1) else (Fs.l0 k1 l0 a1 (l0.length : Int) x9_1 ji5))) else (none)) else (none))=some (r1,r2):=by first|(rw [hji5] at H;exact H)|(simp only [hji5] at H ⊢;exact H)
    have hji5w : (IntKind.i64.wrap ((IntKind.u64.wrap (wrap64 (x9_1+x10_1))) / 2))=ji5:=(zG _).trans hji5
    by_cases c6 : 0≤(ji5)
    ·
     rw [if_pos c6] at H
     have c6b0 : decide (0≤(ji5))=true:=decide_eq_true c6;clear c6
     by_cases c7 : (ji5)<(l0.length : Int)
     ·
      rw [if_pos c7] at H
      have c7b0 : decide ((ji5)<(l0.length : Int))=true:=decide_eq_true c7;clear c7;replace H:=zT.mp H;obtain ⟨t212,A80,H⟩:=H;have A8:=zh A80;clear A80
      by_cases c9 : t212<0
      ·
       rw [if_pos c9] at H
       have c9b0 : decide (t212<0)=true:=decide_eq_true c9;clear c9;have H':=zh H;clear H;have p211 : 0≤((ji5) : Int):=zy jE;have q211 : (ji5)<(l0.length : Int):=zy jE;obtain ⟨ad211,e211,hx211_0,hx211_1,hx211_2,hx211_3⟩:=at_T43 HR0.out (ji5) p211 q211
       cases e211
       replace hx211_0:=(HB.out.cell (zl w _ hx211_0)).trans hx211_0;replace hx211_1:=(HB.out.cell (zl w _ hx211_1)).trans hx211_1;replace hx211_2:=(HB.out.cell (zl w _ hx211_2)).trans hx211_2;replace hx211_3:=(HB.out.cell (zl w _ hx211_3)).trans hx211_3;replace p211:=eq_true p211;replace q211:=eq_true q211
       go_wp2_with (first|(go_at_call 45;(with_reducible refine (F0l.calls  ((rd_T43 l0 (ji5)).f0) ((rd_T43 l0 (ji5)).f1.f0) ((rd_T43 l0 (ji5)).f1.f1) ((rd_T43 l0 (ji5)).f1.f2) a1 t212 _ A8.out).mono ?_);rintro e w10 ⟨rfl,hb⟩;replace HB:=zh (zC jG hb);(try clear hb);(try clear hb2);(try clear hk);(try clear hi)))
       go_roundg k1
       case measure=>have:=HK1.out;omega
       case rel=>exact ⟨(wrap64 ((ji5)+1)),(x10_1),jDG,jC,H',⟨jZ⟩,⟨jG⟩⟩
      rw [if_neg c9] at H;have c9b0 : decide (t212<0)=false:=decide_eq_false c9;clear c9;have H':=zh H;clear H;have p211 : 0≤((ji5) : Int):=zy jE;have q211 : (ji5)<(l0.length : Int):=zy jE;obtain ⟨ad211,e211,hx211_0,hx211_1,hx211_2,hx211_3⟩:=at_T43 HR0.out (ji5) p211 q211
      cases e211
      replace hx211_0:=(HB.out.cell (zl w _ hx211_0)).trans hx211_0;replace hx211_1:=(HB.out.cell (zl w _ hx211_1)).trans hx211_1;replace hx211_2:=(HB.out.cell (zl w _ hx211_2)).trans hx211_2;replace hx211_3:=(HB.out.cell (zl w _ hx211_3)).trans hx211_3;replace p211:=eq_true p211;replace q211:=eq_true q211
      go_wp2_with (first|(go_at_call 45;(with_reducible refine (F0l.calls  ((rd_T43 l0 (ji5)).f0) ((rd_T43 l0 (ji5)).f1.f0) ((rd_T43 l0 (ji5)).f1.f1) ((rd_T43 l0 (ji5)).f1.f2) a1 t212 _ A8.out).mono ?_);rintro e w11 ⟨rfl,hb⟩;replace HB:=zh (zC jG hb);(try clear hb);(try clear hb2);(try clear hk);(try clear hi)))
      go_roundg k1
      case measure=>have:=HK1.out;omega
      case rel=>exact ⟨(x9_1),(ji5),jC,jDG,H',⟨jZ⟩,⟨jG⟩⟩
     rw [if_neg c7] at H;exact absurd H (by simp)
    rw [if_neg c6] at H;exact absurd H (by simp)
   rw [if_neg c4] at H;have c4b0 : decide (x9_1<x10_1)=false:=decide_eq_false c4;clear c4
   by_cases c12 : x9_1<(l0.length : Int)
   ·
    rw [if_pos c12] at H
    have c12b0 : decide (x9_1<(l0.length : Int))=true:=decide_eq_true c12;clear c12
    by_cases c13 : 0≤x9_1
    ·
     rw [if_pos c13] at H
     have c13b0 : decide (0≤x9_1)=true:=decide_eq_true c13;clear c13
     by_cases c14 : x9_1<(l0.length : Int)
     ·
      rw [if_pos c14] at H
      have c14b0 : decide (x9_1<(l0.length : Int))=true:=decide_eq_true c14;clear c14;replace H:=zT.mp H;obtain ⟨t214,A150,H⟩:=H;have A15:=zh A150;clear A150;simp only [Option.some.injEq,Prod.mk.injEq] at H;obtain ⟨rfl,rfl⟩:=H;have p213 : 0≤(x9_1 : Int):=zy jE;have q213 : x9_1<(l0.length : Int):=zy jE;obtain ⟨ad213,e213,hx213_0,hx213_1,hx213_2,hx213_3⟩:=at_T43 HR0.out x9_1 p213 q213
      cases e213
      replace hx213_0:=(HB.out.cell (zl w _ hx213_0)).trans hx213_0;replace hx213_1:=(HB.out.cell (zl w _ hx213_1)).trans hx213_1;replace hx213_2:=(HB.out.cell (zl w _ hx213_2)).trans hx213_2;replace hx213_3:=(HB.out.cell (zl w _ hx213_3)).trans hx213_3;replace p213:=eq_true p213;replace q213:=eq_true q213
      go_wp2_with (first|(go_at_call 45;(with_reducible refine (F0l.calls  ((rd_T43 l0 x9_1).f0) ((rd_T43 l0 x9_1).f1.f0) ((rd_T43 l0 x9_1).f1.f1) ((rd_T43 l0 x9_1).f1.f2) a1 t214 _ A15.out).mono ?_);rintro e w16 ⟨rfl,hb⟩;replace HB:=zh (zC jG hb);(try clear hb);(try clear hb2);(try clear hk);(try clear hi)))
      go_ret2
      exact ⟨jF,jG⟩
     rw [if_neg c14] at H;exact absurd H (by simp)
    rw [if_neg c13] at H;exact absurd H (by simp)
   rw [if_neg c12] at H;have c12b0 : decide (x9_1<(l0.length : Int))=false:=decide_eq_false c12;clear c12;simp only [Option.some.injEq,Prod.mk.injEq] at H;obtain ⟨rfl,rfl⟩:=H
   go_wp2
   go_ret2
   exact ⟨jF,jG⟩


def F01.f (k : Nat) (l0 : List (S43)) (a1 : ByteArray) : Option (Int×Bool):=(Fs.f k l0 a1).bind fun bt215=>(some (bt215.1,bt215.2))
theorem F01.mono : ∀ a0 a1 k,LeO (F01.f k a0 a1) (F01.f (k+1) a0 a1):=by
 intro a0 a1 k;unfold F01.f
 repeat' first|(with_reducible first|exact Fs.mono _ _ _|exact zQ _|exact zN _|refine zP ?_ ?_|refine zO ?_ (fun _=>?_))|refine zP ?_ ?_|refine zO ?_ (fun _=>?_)
set_option maxHeartbeats 8000000 in
set_option maxRecDepth 100000 in
theorem F01.calls (k : Nat) (A0 : Option Addr) (c0 : Nat) (l0 : List (S43)) (a1 : ByteArray) (r1 : Int) (r2 : Bool) (w : World) (hr0 : Kd.C k43 w A0 l0.length l0) (hc0 : l0.length≤c0) (h : F01.f k l0 a1=some (r1,r2)) :
  Calls Try.prog 24 #[.slice A0 l0.length c0,.string a1] w fun e w' => e = .returned (.tuple #[.int .i64 r1,.bool r2])∧Below w.heap.size w w':=by
 have HR0:=zh hr0;have HC0:=zh hc0;clear hr0 hc0;have HB:=zh (Below.refl w.heap.size w);have H : ((Fs.f k l0 a1).bind fun bt215=>(some (bt215.1,bt215.2)))=some (r1,r2):=h;clear h;replace H:=zT.mp H;obtain ⟨⟨t215,t216⟩,A30,H⟩:=H;have A3:=zh A30;clear A30;simp only [Option.some.injEq,Prod.mk.injEq] at H;obtain ⟨rfl,rfl⟩:=H
 go_enter Try.func24,Try.ntmps24
 go_wp2_with (first|((with_reducible refine zJ (f:=44) rfl ?_);refine yj (some 8) rfl rfl Try.func44 jA rfl #[.slice A0 l0.length c0,.string a1,.func (.func 45) #[] #[]] rfl jD ?_;(with_reducible refine (Fs.calls k  _ _ l0 a1  t215 t216 _ ?side1 ?side2 A3.out).mono ?_);(case side1=>repeat (first|exact HR0.out|(with_reducible refine Kd.C_alloc ?_ _)|(with_reducible refine Kd.C_drewN ?_ _)|(with_reducible refine Kd.C_drew ?_)));(case side2=>exact HC0.out);rintro e w4 ⟨rfl,hb⟩;refine ⟨_,rfl,?_⟩;replace HB:=zh (zC jG hb);(try clear hb);(try clear hb2);(try clear hk);(try clear hi)))
 go_ret2
 exact ⟨jF,jG⟩


set_option maxHeartbeats 4000000 in
set_option maxRecDepth 100000 in
theorem slices_Insert_fields.ins (ok okp : Nat→Prop) (base : Nat) (v : Value) (xs : List S43) (p : S43) (cs : List Value) (i : Nat) (w0 W : World) (hi : i≤xs.length)
  (HO : Kd.R k43 43 W base ok v xs) (hp : Kd.M k43 W base okp p cs) (hokp : ∀ q,okp q→ok q∧some q≠v.ownBlock) (hfresh : ∀ q,W.heap.size≤q→ok q) (HB : Below base w0 W) (hbase : base≤W.heap.size) (hl : (xs.length+1)*48≤140737488355328) :
  Calls Try.prog 49 #[v,.int .i64 i,.slice (some ⟨W.heap.size,0,none⟩) 1 1] (W.alloc (.cells cs.toArray 43)) fun ex w' => ∃ v1,ex = .returned v1∧Kd.R k43 43 w' base ok v1 (xs.take i ++ [p]++xs.drop i)∧Below base w0 w' ∧ W.grownBy w' v.ownBlock∧(v1.ownBlock=v.ownBlock ∨ ∃ b,v1.ownBlock=some b∧W.heap.size≤b):=by
 have hcl : cs.length=4:=Kd.K_len k43 (Kd.K_of_M k43 hp);have h1c : ∀ u ∈ cs,u.oneCell' = true:=Kd.K_one k43 (Kd.K_of_M k43 hp);have hvb : (W.alloc (.cells cs.toArray 43)).heap[W.heap.size]? = some (.cells cs.toArray 43 (0,0)):=blk_new W _
 by_cases hin : i=xs.length
 ·
  subst hin
  have e0 : xs.take xs.length ++ [p]++xs.drop xs.length=xs ++ [p]:=by simp
  rw [e0];obtain ⟨A,c,rfl⟩:=yk HO;have hlx : ¬ ((1 : Int)=0):=by decide
  by_cases hcn : c=xs.length
  ·
   subst hcn
   go_enter Try.func49,Try.ntmps49
   go_wp2_with (at_builtin;refine Kd.R_append k43 base (by rfl) (.tmp 23) (.tmp 24) 28 43 (.agg #[(.string ⟨#[]⟩),(.int .i64 0),(.int .i64 0),(.string ⟨#[]⟩)]) 48 rfl Try.underlying28 info43 rfl jB jB (.slice A xs.length xs.length) xs p cs ok okp rfl rfl hp hokp hfresh HO HB hbase hl ?_;intro v1 w1 hR hb hg hat)
   go_ret
   exact ⟨v1,rfl,hR,hb,hg,hat⟩
  have hcn2 : ¬ xs.length=c:=fun h=>hcn h.symm
  go_enter Try.func49,Try.ntmps49
  go_wp2_with (at_builtin;refine Kd.R_append k43 base (by rfl) (.tmp 23) (.tmp 24) 28 43 (.agg #[(.string ⟨#[]⟩),(.int .i64 0),(.int .i64 0),(.string ⟨#[]⟩)]) 48 rfl Try.underlying28 info43 rfl jB jB (.slice A xs.length c) xs p cs ok okp rfl rfl hp hokp hfresh HO HB hbase hl ?_;intro v1 w1 hR hb hg hat)
  go_ret
  exact ⟨v1,rfl,hR,hb,hg,hat⟩
 have hlt : i<xs.length:=by omega
 obtain ⟨hok,inner,hown,hreps⟩:=HO;obtain ⟨hil,⟨rfl,h0⟩|⟨g,cap,cur,rfl,hbg,hh,hnc,hcm,hcs,ht⟩⟩:=hown
 ·
  rw [h0] at hlt;exact absurd hlt (Nat.not_lt_zero _)
 have hsz0 : k43.sz=4:=rfl;rw [hsz0] at hil hcs ht hreps;have hglt : g<W.heap.size:=yi hh;have hh1 : (W.alloc (.cells cs.toArray 43)).heap[g]? = some (.cells cur 43 (0,0)):=zg hh _;have hgo : (Value.slice (some ⟨g,0,none⟩) xs.length cap).ownBlock=some g:=by simp [Value.ownBlock]
 have hcm' : cap≤9223372036854775807:=hcm;have hnb : xs.length≤140737488355328:=by omega
 have hcells : ∀ j u,inner[j]? = some u→W.cell? ⟨g,j,none⟩=some u:=fun j u hj=>by
  rw [zz hh];rw [← ht,List.getElem?_take] at hj
  split at hj
  ·
   rw [← Array.getElem?_toList];exact hj
  cases hj
 have h1i : ∀ u ∈ inner,u.oneCell' = true:=by
  obtain ⟨A',c',he,_,hC⟩:=Kd.R_reads (d:=k43) (e:=43) (w:=W) (base:=base) (ok:=ok) (xs:=xs) (v:=.slice (some ⟨g,0,none⟩) xs.length cap) ⟨hok,inner,⟨hil,.inr ⟨g,cap,cur,rfl,hbg,hh,hnc,hcm,hcs,ht⟩⟩,hreps⟩;intro u hu;obtain ⟨q,hq,rfl⟩:=List.getElem_of_mem hu;have hq2 : q / 4<xs.length:=by rw [hil] at hq;omega
  have h3:=hreps.2 (q / 4) _ (List.getElem?_eq_getElem hq2);refine Kd.K_one k43 (Kd.K_of_M k43 h3) _ ?_;have e3 : q=q / 4*4+q % 4:=by omega
  rw [List.mem_take_iff_getElem];refine ⟨q % 4,by rw [zw];have:=Nat.mod_lt q (show 0<4 by decide);omega,?_⟩;rw [List.getElem_drop]
  congr 1
  omega
 have hRE : ∀ w1 v1,w1.ownsRow base 43 4 v1 (xs.take i ++ [p]++xs.drop i).length (inner.take (i*4)++cs++inner.drop (i*4))→W.grownBy w1 (some g)→(v1.ownBlock=some g ∨ ∃ b,v1.ownBlock=some b∧W.heap.size≤b)→Kd.R k43 43 w1 base ok v1 (xs.take i ++ [p]++xs.drop i):=by
  intro w1 v1 ho hg hat;refine Go.Proofs.Ytoinoihiknmnmaa.Row.R_again (v:=.slice (some ⟨g,0,none⟩) xs.length cap) hok ?_ hfresh ho (by rw [hgo];exact hg) (by rw [hgo];rcases hat with hat|hat;exact .inl hat;exact .inr (.inr hat));exact Kd.reps_append (Kd.reps_append (Kd.reps_take hreps (Nat.le_of_lt hlt)) (Go.Proofs.Ytoinoihiknmnmaa.Row.reps_one (Kd.M_mono k43 (fun q hq=>hokp q hq) hp) hcl)) (Go.Proofs.Ytoinoihiknmnmaa.Row.reps_drop hreps)
 have hlen : (xs.take i ++ [p]++xs.drop i).length=xs.length+1:=by simp;omega
 have hlen2 : (inner.take (i*4)++cs++inner.drop (i*4)).length=(xs.length+1)*4:=by simp [hcl,hil];omega
 have hdl : (inner.drop (i*4)).length=(xs.length - i)*4:=by rw [zw,hil,Nat.sub_mul]
 have htl : (inner.take (i*4)).length=i*4:=by rw [zx,hil];omega
 have hsz : (Try.prog.info? 43).map (·.size)=some 4:=by have:=info43;cases hq : Try.prog.info? 43 with
  | none=>rw [hq] at this;cases this
  | some i0=>rw [hq] at this;simp at this;simp [this.2.1]
 have hw1 : IntKind.i64.wrap ((xs.length : Int)+1)=(xs.length : Int)+1:=by rw [IntKind.wrap_i64];omega
 have hw2 : IntKind.i64.wrap ((i : Int)+1)=(i : Int)+1:=by rw [IntKind.wrap_i64];omega
 have hw3 : IntKind.i64.wrap ((i : Int)+(1 : Int))=(i : Int)+1:=by rw [IntKind.wrap_i64];omega
 have hw4 : IntKind.i64.wrap ((xs.length : Int)+1 - (i : Int))=(xs.length : Int)+1 - (i : Int):=by rw [IntKind.wrap_i64];omega
 have hq1 : ¬ ((i : Int)=(xs.length : Int)):=by omega
 have hq1b : ((i : Int) == (xs.length : Int))=false:=zY.mpr hq1;have hrow1 : ∀ (C : List Value) (q : Nat) (x : List Value),q+x.length≤C.length→(C.take q++x++C.drop (q+x.length)).length=C.length:=fun C q x h=>by simp;omega
 have hu:=Try.underlying28
 have hfc : ∀ j u,cs[j]? = some u→(W.alloc (.cells cs.toArray 43)).cell? ⟨W.heap.size,j,none⟩=some u:=fun j u hj=>by
  rw [zz hvb];simpa using hj
 have hgv : W.heap.size≠g:=by omega
 have mixed : Try.prog.follows Departure.mixedOrders=true:=by rfl
 by_cases hroom : cap<xs.length+1
 ·
  have hz3 : (cap : Int)<(xs.length : Int)+1:=by omega
  have hz3b : decide ((cap : Int)<(xs.length : Int)+1)=true:=decide_eq_true hz3
  obtain ⟨i0,hi0,hzz,hzs,hzb⟩ : ∃ i0,Try.prog.info? 43=some i0∧i0.zero=some (.agg #[(.string ⟨#[]⟩),(.int .i64 0),(.int .i64 0),(.string ⟨#[]⟩)])∧i0.size=4∧i0.bytes=48:=by
   have:=info43
   cases hq : Try.prog.info? 43 with
   | none=>rw [hq] at this;cases this
   | some i0=>rw [hq] at this;simp at this;exact ⟨i0,rfl,this.1,this.2.1,this.2.2⟩
  obtain ⟨V,hV⟩ : ∃ V,V=W.alloc (.cells cs.toArray 43):=⟨_,rfl⟩;rw [← hV] at hvb hh1 hfc ⊢;have hVs : V.heap.size=W.heap.size+1:=by rw [hV];simp
  have hcellsV : ∀ j u,inner[j]? = some u→V.cell? ⟨g,j,none⟩=some u:=fun j u hj=>by
   have:=hcells j u hj;rw [zz hh] at this;rw [zz hh1];exact this
  have hold : (Builtin.firstCells i0.size i (.slice (some ⟨g,0,none⟩) i cap)).run Try.prog V.drew = .ok (inner.take (i*4)).toArray V.drew:=by
   rw [hzs]
   exact run_firstCells_some V.drew 4 i ⟨g,0,none⟩ i cap (inner.take (i*4)) (by rw [htl]) (fun j v hj=>by
    rw [add_plain];rw [List.getElem?_take] at hj
    split at hj
    ·
     exact hcellsV j v hj
    cases hj)
  have hik : i+(xs.length+1 - i)=xs.length+1:=by omega
  have hrz : ∀ ty,(Builtin.append_ #[28,3] ty #[.slice (some ⟨g,0,none⟩) i cap,.int .i64 ((xs.length : Int)+1 - (i : Int))]).run Try.prog V =
    .ok (.slice (some ⟨V.heap.size,0,none⟩) (xs.length+1) (grownCap V (xs.length+1) cap 43)) (V.drew.alloc (.cells ((inner.take (i*4)).toArray++Builtin.zeroCells ((.agg #[(.string ⟨#[]⟩),(.int .i64 0),(.int .i64 0),(.string ⟨#[]⟩)]) : Value).cells (xs.length+1 - i)++Builtin.zeroCells ((.agg #[(.string ⟨#[]⟩),(.int .i64 0),(.int .i64 0),(.string ⟨#[]⟩)]) : Value).cells (grownCap V (xs.length+1) cap 43 - (xs.length+1))) 43)):=fun ty=>by
   have h:=Lib.run_append_grow_zeros V 28 3 ty 43 i0 _ .i64 .i64 hu Try.underlying3 hi0 hzz (some ⟨g,0,none⟩) i cap (inner.take (i*4)) hold (xs.length+1 - i) jH (by rw [hzs];decide) jH jH (by rw [hzb];omega) (by rw [hzb,hik];exact growslice_fits hroom hl);rw [hik,show ((xs.length+1 - i : Nat) : Int)=(xs.length : Int)+1 - (i : Int) by omega] at h;exact h
  obtain ⟨G,hG⟩ : ∃ G,G=grownCap V (xs.length+1) cap 43:=⟨_,rfl⟩;have hGn : xs.length+1≤G:=by rw [hG];exact grownCap_ge _ _ _ _
  have hGm : G≤maxLen:=by rw [hG];exact grownCap_le_maxLen _ _ _ _ (by unfold maxLen;omega)
  obtain ⟨ROW,hROW⟩ : ∃ ROW : Array Value,ROW=(inner.take (i*4)).toArray++Builtin.zeroCells ((.agg #[(.string ⟨#[]⟩),(.int .i64 0),(.int .i64 0),(.string ⟨#[]⟩)]) : Value).cells (xs.length+1 - i)++Builtin.zeroCells ((.agg #[(.string ⟨#[]⟩),(.int .i64 0),(.int .i64 0),(.string ⟨#[]⟩)]) : Value).cells (G - (xs.length+1)):=⟨_,rfl⟩;rw [← hG,← hROW] at hrz
  have hRs : ROW.size=G*4:=by
   rw [hROW];have hz9 : ((.agg #[(.string ⟨#[]⟩),(.int .i64 0),(.int .i64 0),(.string ⟨#[]⟩)]) : Value).cells.size=4:=by rfl
   simp only [Array.size_append,List.size_toArray,htl,Builtin.zeroCells,Array.size_map,Array.size_range,hz9]
   omega
  have hRl : ROW.toList.length=G*4:=(Array.length_toList (xs:=ROW)).trans hRs
  have hRt : ROW.toList.take (i*4)=inner.take (i*4):=by
   rw [hROW];simp only [Array.toList_append,List.append_assoc];rw [List.take_append_of_le_length (by rw [htl];exact ye _),List.take_of_length_le (by rw [htl];exact ye _)]
  clear hROW;obtain ⟨W1,hW1⟩ : ∃ W1,W1=V.drew.alloc (.cells ROW 43):=⟨_,rfl⟩;rw [← hW1] at hrz;have hN1 : W1.heap[V.heap.size]? = some (.cells ROW 43 (0,0)):=by rw [hW1];exact blk_new V.drew _
  have hvb1 : W1.heap[W.heap.size]? = some (.cells cs.toArray 43 (0,0)):=by rw [hW1];exact zg (zf hvb) _
  have hg1 : W1.heap[g]? = some (.cells cur 43 (0,0)):=by rw [hW1];exact zg (zf hh1) _
  have hB1 : Below W.heap.size W W1:=by rw [hW1,hV];exact za (below_drew (za (Below.refl _ _) _)) _
  obtain ⟨R1,hR1⟩ : ∃ R1 : List Value,R1=ROW.toList.take (i*4)++cs++ROW.toList.drop (i*4+cs.length):=⟨_,rfl⟩;have hR1l : R1.length=G*4:=by rw [hR1,hrow1 _ _ _ (by rw [hRl,hcl];omega),hRl]
  have hcp1 : ∀ ty dc,(Builtin.copy_ #[28,28] ty #[.slice (some ⟨V.heap.size,i*4,none⟩) (xs.length+1 - i) dc,.slice (some ⟨W.heap.size,0,none⟩) 1 1]).run Try.prog W1 = .ok (goInt (Nat.min 1 (xs.length+1 - i))) (W1.setRow V.heap.size R1.toArray):=fun ty dc=>by
   rw [hR1];exact Go.Proofs.Ytoinoihiknmnmaa.Row.run_copy_rowk W1 _ _ ty 43 4 V.heap.size (i*4) (xs.length+1 - i) dc ⟨W.heap.size,0,none⟩ 1 1 ROW 43 cs hu hsz hN1 (by rw [hcl];have : Nat.min 1 (xs.length+1 - i)=1:=Nat.min_eq_left jH;rw [this]) (fun j v hj=>by rw [add_plain,zz hvb1];simpa using hj) (by rw [hRs,hcl];omega) h1c
  obtain ⟨W2,hW2⟩ : ∃ W2,W2=W1.setRow V.heap.size R1.toArray:=⟨_,rfl⟩;rw [← hW2] at hcp1;have hN2 : W2.heap[V.heap.size]? = some (.cells R1.toArray 43 (0,0)):=by rw [hW2];exact setRow_heap W1 _ _ _ _ _ hN1
  have hoth2 : ∀ k,k≠V.heap.size→W2.heap[k]? = W1.heap[k]?:=fun k hk=>by rw [hW2];exact setRow_other _ _ _ _ hk
  have hg2 : W2.heap[g]? = some (.cells cur 43 (0,0)):=(hoth2 g jH).trans hg1;obtain ⟨R2,hR2⟩ : ∃ R2 : List Value,R2=R1.take ((i+1)*4)++inner.drop (i*4)++R1.drop ((i+1)*4+(inner.drop (i*4)).length):=⟨_,rfl⟩;have hR2l : R2.length=G*4:=by rw [hR2,hrow1 _ _ _ (by rw [hR1l,hdl];omega),hR1l]
  have hR2t : R2.take ((xs.length+1)*4)=inner.take (i*4)++cs++inner.drop (i*4):=by
   have e1 : R1.take ((i+1)*4)=inner.take (i*4)++cs:=by
    rw [hR1,hRt,List.take_append_of_le_length (by simp [hcl,htl];omega),List.take_of_length_le (by simp [hcl,htl];omega)]
   rw [hR2,e1,List.take_append_of_le_length (by simp [hcl,hil];omega),List.take_of_length_le (by simp [hcl,hil];omega)]
  have hcp2 : ∀ ty dc sc,(Builtin.copy_ #[28,28] ty #[.slice (some ⟨V.heap.size,(i+1)*4,none⟩) (xs.length+1 - (i+1)) dc,.slice (some ⟨g,i*4,none⟩) (xs.length - i) sc]).run Try.prog W2.drew = .ok (goInt (Nat.min (xs.length - i) (xs.length+1 - (i+1)))) (W2.drew.setRow V.heap.size R2.toArray):=fun ty dc sc=>by
   rw [hR2]
   have:=Go.Proofs.Ytoinoihiknmnmaa.Row.run_copy_rowk W2.drew 28 28 ty 43 4 V.heap.size ((i+1)*4) (xs.length+1 - (i+1)) dc ⟨g,i*4,none⟩ (xs.length - i) sc R1.toArray 43 (inner.drop (i*4)) hu hsz (zf hN2) (by rw [hdl];have : Nat.min (xs.length - i) (xs.length+1 - (i+1))=xs.length - i:=Nat.min_eq_left jH;rw [this]) (fun j v hj=>by
    rw [add_at,zz (zf hg2)];rw [List.getElem?_drop,← ht,List.getElem?_take] at hj
    split at hj
    ·
     rw [← Array.getElem?_toList];exact hj
    cases hj) (by simp only [List.size_toArray];rw [hR1l,hdl];omega) (fun u hu=>h1i u (List.mem_of_mem_drop hu))
   simpa using this
  obtain ⟨W3,hW3⟩ : ∃ W3,W3=W2.drew.setRow V.heap.size R2.toArray:=⟨_,rfl⟩;rw [← hW3] at hcp2;have hN3 : W3.heap[V.heap.size]? = some (.cells R2.toArray 43 (0,0)):=by rw [hW3];exact setRow_heap W2.drew _ _ _ _ _ (zf hN2)
  have hB3 : Below W.heap.size W W3:=by
   refine ⟨by rw [hW3,hW2];exact hB1.os,by rw [hW3,hW2];exact hB1.tape,by rw [hW3,hW2];exact hB1.output,by rw [hW3,hW2];simpa using hB1.size,fun k hk=>?_⟩;rw [hW3,setRow_other _ _ _ _ jH];show W2.heap[k]? = _;rw [hoth2 k jH];exact hB1.block k hk
  have hfin : ∃ v1,(Value.slice (some ⟨V.heap.size,0,none⟩) (xs.length+1) G)=v1∧Kd.R k43 43 W3 base ok v1 (xs.take i ++ [p]++xs.drop i)∧Below base w0 W3∧W.grownBy W3 (some g)∧(v1.ownBlock=some g ∨ ∃ b,v1.ownBlock=some b∧W.heap.size≤b):=by
   refine ⟨_,rfl,hRE W3 _ ?_ (grown_of_below hB3 _) ?_,below_then HB hbase hB3,grown_of_below hB3 _,?_⟩
   ·
    refine ⟨by rw [hlen2,hlen],.inr ⟨V.heap.size,G,R2.toArray,by rw [hlen],jH,hN3,by rw [hlen];exact hGn,hGm,by simp only [List.size_toArray];exact hR2l,by rw [hlen];exact hR2t⟩⟩
   ·
    exact .inr ⟨V.heap.size,jAS,jH⟩
   exact .inr ⟨V.heap.size,jAS,jH⟩
  clear hRE hreps hW3 hW2 hW1 hR1 hR2 hold hrow1 hokp hok HB hp hV hVs hG;rw [hgo];have hi0 : (0 : Int)≤(i : Int):=by omega
  have hin2 : (i : Int)≤(xs.length : Int):=by omega
  have hcn : ¬ (cap=i):=by omega
  have hGi : ¬ (G=i):=by omega
  have hGi1 : ¬ (G=i+1):=by omega
  have htn : ((i : Int)+1).toNat=i+1:=by omega
  have hb1 : (0 : Int)≤(i : Int)+1:=by omega
  have hb3 : (i : Int)≤(xs.length : Int):=by omega
  have hb4 : i≤xs.length:=hi;have hb5 : (i : Int)+1≤(xs.length : Int)+1:=by omega
  have hb6 : (i : Int)<(xs.length : Int):=by omega
  go_enter Try.func49,Try.ntmps49
  go_wp2_with (first
   | (at_builtin;refine Lib.wpList_append_run _ rfl _ _ _ _ rfl _ _ rfl rfl _ _ (hrz _) ?_)
   | (at_builtin;(refine Go.Proofs.Ytoinoihiknmnmaa.Row.copy_run rfl _ _ 28 28 rfl _ _ rfl rfl (hcp1 _ _) ?_)))
  go_region_law_o (refine Go.Proofs.Ytoinoihiknmnmaa.Row.copy_step rfl _ _ 28 28 rfl (.slice (some ⟨V.heap.size,(i+1)*4,none⟩) (xs.length+1 - (i+1)) (G - (i+1))) (.slice (some ⟨g,i*4,none⟩) (xs.length - i) (cap - i)) jBw jBw (hcp2 3 (G - (i+1)) (cap - i)) ?_)
  go_wp2
  go_ret
  obtain ⟨v1,rfl,h1,h2,h3,h4⟩:=hfin;exact ⟨_,rfl,h1,h2,h3,h4⟩
 have hr : xs.length+1≤cap:=by omega
 have hz3b : decide ((cap : Int)<(xs.length : Int)+1)=false:=decide_eq_false jH;have hz3 : ¬ ((cap : Int)<(xs.length : Int)+1):=by omega
 obtain ⟨V,hV⟩ : ∃ V,V=W.alloc (.cells cs.toArray 43):=⟨_,rfl⟩;rw [← hV] at hvb hh1 hfc ⊢;have hVs : V.heap.size=W.heap.size+1:=by rw [hV];simp
 have hov : ∀ lb cb,(callFunc 73 #[.slice (some ⟨W.heap.size,0,none⟩) 1 1,.slice (some ⟨g,(i+1)*4,none⟩) lb cb]).run Try.prog V = .ok (.value (.bool false)) V:=fun lb cb=>by
  rw [run_callFunc_extern Try.func73 jA jA jA (e:=Extern.SlicesOverlaps.overlaps #[28,28] #[4]) jA,
   Lib.run_overlaps_apart V 28 4 43 hu 4 (fun w=>by
    cases hq : Try.prog.info? 43 with
    | none=>rw [hq] at hsz;cases hsz
    | some i0=>rw [hq] at hsz;simp at hsz;simp [sizeOf,typeInfo,hq,hsz]) ⟨W.heap.size,0,none⟩ ⟨g,(i+1)*4,none⟩ 1 1 lb cb hgv 43 43 cs.toArray.size cur.size (by simp [World.shape?,hvb]) (by simp [World.shape?,hh1]) (by rw [hcs];omega) (zA hvb 0) (zA hvb _)]
  rfl
 obtain ⟨R1,hR1⟩ : ∃ R1 : List Value,R1=cur.toList.take ((i+1)*4)++inner.drop (i*4)++cur.toList.drop ((i+1)*4+(inner.drop (i*4)).length):=⟨_,rfl⟩;have hcl2 : cur.toList.length=cap*4:=(Array.length_toList (xs:=cur)).trans hcs;have hR1l : R1.length=cap*4:=by rw [hR1,hrow1 _ _ _ (by rw [hcl2,hdl];omega),hcl2]
 have hcp1 : ∀ ty dc sc,(Builtin.copy_ #[28,28] ty #[.slice (some ⟨g,(i+1)*4,none⟩) (xs.length+1 - (i+1)) dc,.slice (some ⟨g,i*4,none⟩) (xs.length+1 - i) sc]).run Try.prog V.drew = .ok (goInt (Nat.min (xs.length+1 - i) (xs.length+1 - (i+1)))) (V.drew.setRow g R1.toArray):=fun ty dc sc=>by
  rw [hR1]
  exact Go.Proofs.Ytoinoihiknmnmaa.Row.run_copy_rowk V.drew 28 28 ty 43 4 g ((i+1)*4) (xs.length+1 - (i+1)) dc ⟨g,i*4,none⟩ (xs.length+1 - i) sc cur 43 (inner.drop (i*4)) hu hsz (zf hh1) (by rw [hdl];have : Nat.min (xs.length+1 - i) (xs.length+1 - (i+1))=xs.length - i:=(Nat.min_eq_right jH).trans jH;rw [this]) (fun j v hj=>by
   rw [add_at,zz (zf hh1)];rw [List.getElem?_drop,← ht,List.getElem?_take] at hj
   split at hj
   ·
    rw [← Array.getElem?_toList];exact hj
   cases hj) (by rw [hcs,hdl];omega) (fun u hu=>h1i u (List.mem_of_mem_drop hu))
 obtain ⟨W1,hW1⟩ : ∃ W1,W1=V.drew.setRow g R1.toArray:=⟨_,rfl⟩;rw [← hW1] at hcp1;have hg1 : W1.heap[g]? = some (.cells R1.toArray 43 (0,0)):=by rw [hW1];exact setRow_heap V.drew _ _ _ _ _ (zf hh1)
 have hoth1 : ∀ k,k≠g→W1.heap[k]? = V.heap[k]?:=fun k hk=>by rw [hW1];exact setRow_other _ _ _ _ hk
 have hvb1 : W1.heap[W.heap.size]? = some (.cells cs.toArray 43 (0,0)):=(hoth1 _ hgv).trans hvb;obtain ⟨R2,hR2⟩ : ∃ R2 : List Value,R2=R1.take (i*4)++cs++R1.drop (i*4+cs.length):=⟨_,rfl⟩;have hR2l : R2.length=cap*4:=by rw [hR2,hrow1 _ _ _ (by rw [hR1l,hcl];omega),hR1l]
 have hct : cur.toList.take (i*4)=inner.take (i*4):=by rw [← ht,List.take_take,Nat.min_eq_left jH]
 have hR2t : R2.take ((xs.length+1)*4)=inner.take (i*4)++cs++inner.drop (i*4):=by
  have e1 : R1.take (i*4)=inner.take (i*4):=by
   rw [hR1,List.append_assoc,List.take_append_of_le_length (by simp [hcl2,hcs];omega),List.take_take,Nat.min_eq_left jH,hct]
  have e2 : (R1.drop (i*4+cs.length)).take ((xs.length - i)*4)=inner.drop (i*4):=by
   have e3 : (cur.toList.take ((i+1)*4)).length=i*4+cs.length:=by rw [zx,hcl2,hcl];omega
   rw [hR1,List.append_assoc,← e3,List.drop_left,← hdl,List.take_left]
  rw [hR2,e1,List.take_append,List.take_of_length_le (by simp [hcl,hil];omega)]
  congr 1
  rw [← e2]
  congr 1
  simp [hcl,hil];omega
 have hcp2 : ∀ ty dc,(Builtin.copy_ #[28,28] ty #[.slice (some ⟨g,i*4,none⟩) (xs.length+1 - i) dc,.slice (some ⟨W.heap.size,0,none⟩) 1 1]).run Try.prog W1 = .ok (goInt (Nat.min 1 (xs.length+1 - i))) (W1.setRow g R2.toArray):=fun ty dc=>by
  rw [hR2];exact Go.Proofs.Ytoinoihiknmnmaa.Row.run_copy_rowk W1 28 28 ty 43 4 g (i*4) (xs.length+1 - i) dc ⟨W.heap.size,0,none⟩ 1 1 R1.toArray 43 cs hu hsz hg1 (by rw [hcl];have : Nat.min 1 (xs.length+1 - i)=1:=Nat.min_eq_left jH;rw [this]) (fun j v hj=>by rw [add_plain,zz hvb1];simpa using hj) (by simp only [List.size_toArray];rw [hR1l,hcl];omega) h1c
 obtain ⟨W2,hW2⟩ : ∃ W2,W2=W1.setRow g R2.toArray:=⟨_,rfl⟩;rw [← hW2] at hcp2;have hg2 : W2.heap[g]? = some (.cells R2.toArray 43 (0,0)):=by rw [hW2];exact setRow_heap W1 _ _ _ _ _ hg1
 have hgr : W.grownBy W2 (some g):=by
  have hsz2 : W2.heap.size=W.heap.size+1:=by rw [hW2,hW1];simp only [setRow_size];exact hVs
  refine ⟨by rw [hW2,hW1,hV];rfl,by rw [hW2,hW1,hV];rfl,by rw [hW2,hW1,hV];rfl,by rw [hsz2];omega,fun k hk hkg=>?_⟩;have hkg' : k≠g:=fun e=>hkg (by rw [e]);rw [hW2,setRow_other _ _ _ _ hkg',hoth1 k hkg',hV];exact Below.heap_alloc W _ k hk
 have hfin : ∃ v1,(Value.slice (some ⟨g,0,none⟩) (xs.length+1) cap)=v1∧Kd.R k43 43 W2 base ok v1 (xs.take i ++ [p]++xs.drop i)∧Below base w0 W2∧W.grownBy W2 (some g)∧(v1.ownBlock=some g ∨ ∃ b,v1.ownBlock=some b∧W.heap.size≤b):=by
  refine ⟨_,rfl,hRE W2 _ ?_ hgr (.inl jAS),pw_below_grown HB (some g) hbase hgr (fun k hk=>by injection hk with hk;omega),hgr,.inl jAS⟩;refine ⟨by rw [hlen2,hlen],.inr ⟨g,cap,R2.toArray,by rw [hlen],hbg,hg2,by rw [hlen];exact hr,hcm,by simp only [List.size_toArray];exact hR2l,by rw [hlen];exact hR2t⟩⟩
 clear hRE hreps hW2 hW1 hR1 hR2 hrow1 hokp hok HB hp hgr hV hVs;rw [hgo];have hi0 : (0 : Int)≤(i : Int):=by omega
 have hin2 : (i : Int)≤(xs.length : Int):=by omega
 have hcn : ¬ (cap=i):=by omega
 have hcn1 : ¬ (cap=i+1):=by omega
 have htn : ((i : Int)+1).toNat=i+1:=by omega
 have htn2 : ((xs.length : Int)+1).toNat=xs.length+1:=by omega
 have hb0 : (0 : Int)≤(xs.length : Int)+1:=by omega
 have hb1 : (0 : Int)≤(i : Int)+1:=by omega
 have hb5 : (i : Int)+1≤(xs.length : Int)+1:=by omega
 have hb6 : (i : Int)<(xs.length : Int):=by omega
 have hb7 : (xs.length : Int)+1≤(cap : Int):=by omega
 have hb8 : (i : Int)≤(xs.length : Int)+1:=by omega
 go_enter Try.func49,Try.ntmps49
 go_wp2_with (simp only [hov])
 go_region_law_o (refine Go.Proofs.Ytoinoihiknmnmaa.Row.copy_step rfl _ _ 28 28 rfl (.slice (some ⟨g,(i+1)*4,none⟩) (xs.length+1 - (i+1)) (cap - (i+1))) (.slice (some ⟨g,i*4,none⟩) (xs.length+1 - i) (cap - i)) jBw jBw (hcp1 3 (cap - (i+1)) (cap - i)) ?_)
 go_wp2_with (at_builtin;(refine Go.Proofs.Ytoinoihiknmnmaa.Row.copy_run rfl _ _ 28 28 rfl _ _ rfl rfl (hcp2 _ _) ?_))
 go_ret
 obtain ⟨v1,rfl,h1,h2,h3,h4⟩:=hfin;exact ⟨_,rfl,h1,h2,h3,h4⟩
def F0d.f (k : Nat) (l0 : List S43) (a1_0 : ByteArray) (a1_1 : Int) (a1_2 : Int) (a1_3 : ByteArray) : Option (List S43):=(F01.f k l0 a1_0).bind fun bt=>(if 0≤bt.1 then (if bt.2=true then (if bt.1<(l0.length : Int) then (some (l0.set bt.1.toNat (⟨a1_0,(⟨a1_1,a1_2,a1_3⟩ : S25)⟩ : S43))) else none) else (if bt.1≤(l0.length : Int) then (if (l0.length+1)*48≤140737488355328 then (some (l0.take bt.1.toNat ++ [(⟨a1_0,(⟨a1_1,a1_2,a1_3⟩ : S25)⟩ : S43)]++l0.drop bt.1.toNat)) else none) else none)) else none)
theorem F0d.mono : ∀ a0 a1 a2 a3 a4 k,LeO (F0d.f k a0 a1 a2 a3 a4) (F0d.f (k+1) a0 a1 a2 a3 a4):=by
 intro a0 a1 a2 a3 a4 k;unfold F0d.f;exact zO (F01.mono _ _ _) (fun _=>zQ _)
set_option maxHeartbeats 4000000 in
set_option maxRecDepth 100000 in
theorem F0d.calls (k : Nat) (P0_ : Nat→Prop) (u9000_ : Value) (l0 : List S43) (a1_0 : ByteArray) (a1_1 : Int) (a1_2 : Int) (a1_3 : ByteArray) (r : List S43) (w0 w : World) (hB : Below w0.heap.size w0 w) (ho0 : Kd.R k43 43 w w0.heap.size P0_ u9000_ l0) (h : F0d.f k l0 a1_0 a1_1 a1_2 a1_3=some r) :
  Calls Try.prog 27 #[u9000_,.agg #[.string a1_0,.int .i64 a1_1,.int .i64 a1_2,.string a1_3]] w fun e w' => ∃ v0_ : Value,e = .returned (v0_)∧Kd.R k43 43 w' w0.heap.size (fun k_=>(P0_ k_∨w.heap.size≤k_)) v0_ r∧Below w0.heap.size w0 w' ∧ Kept w w' (fun k_=>P0_ k_):=by
 obtain ⟨A,c,rfl⟩:=yk ho0;unfold F0d.f at h;obtain ⟨⟨i,b⟩,hF,h⟩:=zT.mp h;simp only at h
 by_cases hi0 : 0≤i
 case neg=>rw [if_neg hi0] at h;cases h
 rw [if_pos hi0] at h;obtain ⟨x,hx⟩ : ∃ x : S43,x=(⟨a1_0,(⟨a1_1,a1_2,a1_3⟩ : S25)⟩ : S43):=⟨_,rfl⟩;rw [← hx] at h;obtain ⟨V,hV⟩ : ∃ V,V=w.alloc (.cells #[.string a1_0,.int .i64 a1_1,.int .i64 a1_2,.string a1_3] 43):=⟨_,rfl⟩;have hbV : Below w.heap.size w V:=by rw [hV];exact za (Below.refl _ _) _
 have hBV : Below w0.heap.size w0 V:=zC hB hbV;have hoV:=yg ho0 hbV;have hVb : V.heap[w.heap.size]? = some (.cells #[.string a1_0,.int .i64 a1_1,.int .i64 a1_2,.string a1_3] 43 (0,0)):=by rw [hV];exact blk_new w _
 have hFC:=F01.calls k A c l0 a1_0 i b V (yh hoV).2.2 (yh hoV).2.1 hF;have hc0:=zz hVb 0
 cases b with
 | true =>
  rw [if_pos rfl] at h
  by_cases hil : i<(l0.length : Int)
  case neg=>rw [if_neg hil] at h;cases h
  rw [if_pos hil] at h;obtain rfl:=zU h;clear h hF
  go_enter Try.func27,Try.ntmps27
  go_wp2_with fail
  rw [← hV]
  go_at_call 24
  refine hFC.mono ?_;rintro e w1 ⟨rfl,hb1⟩;have hVb1:=zD hVb hb1;have ho1:=yg hoV hb1;have hB1:=zC hBV hb1;have hbw1:=zC hbV hb1;obtain ⟨g,co,eo,gb,gl,cl,HGc⟩:=Kd.R_form ho1 jH;injection eo with ea _ ec;subst ea;subst ec;obtain ⟨ci,hci,hMi,hcci,hfi⟩:=Kd.R_elem ho1 z43 i hi0 hil;have ei:=k43_openM hMi;have hm0 : w1.cell? ⟨g,i.toNat*4,none⟩=some (.string (l0.getD i.toNat z43).f0):=hcci 0 _ (by rw [ei];rfl);have hm1 : w1.cell? ⟨g,i.toNat*4+1,none⟩=some (.int .i64 (l0.getD i.toNat z43).f1.f0):=hcci 1 _ (by rw [ei];rfl);have hm2 : w1.cell? ⟨g,i.toNat*4+2,none⟩=some (.int .i64 (l0.getD i.toNat z43).f1.f1):=hcci 2 _ (by rw [ei];rfl);have hm3 : w1.cell? ⟨g,i.toNat*4+3,none⟩=some (.string (l0.getD i.toNat z43).f1.f2):=hcci 3 _ (by rw [ei];rfl);have hn0 : w1.frozen? ⟨g,i.toNat*4,none⟩=false:=hfi 0;have hn1 : w1.frozen? ⟨g,i.toNat*4+1,none⟩=false:=hfi 1;have hn2 : w1.frozen? ⟨g,i.toNat*4+2,none⟩=false:=hfi 2;have hn3 : w1.frozen? ⟨g,i.toNat*4+3,none⟩=false:=hfi 3
  have HP : Aside0 (Kd.R k43 43 ((((w1.setCell ⟨g,i.toNat*4,none⟩ (.string a1_0)).setCell ⟨g,i.toNat*4+1,none⟩ (.int .i64 a1_1)).setCell ⟨g,i.toNat*4+2,none⟩ (.int .i64 a1_2)).setCell ⟨g,i.toNat*4+3,none⟩ (.string a1_3)) w0.heap.size P0_ (.slice (some ⟨g,0,none⟩) l0.length c) (l0.set i.toNat x)∧w1.grownBy ((((w1.setCell ⟨g,i.toNat*4,none⟩ (.string a1_0)).setCell ⟨g,i.toNat*4+1,none⟩ (.int .i64 a1_1)).setCell ⟨g,i.toNat*4+2,none⟩ (.int .i64 a1_2)).setCell ⟨g,i.toNat*4+3,none⟩ (.string a1_3)) (some g)):=⟨Kd.R_seg ho1 i hi0 hil (seg:=[.string a1_0,.int .i64 a1_1,.int .i64 a1_2,.string a1_3]) (j:=0) hci hcci (show 0+4≤4 from by decide) (x':=x) (by
   have hm:=k43_mkM w1 w0.heap.size (fun k_=>P0_ k_∧k_≠g) x;rw [hx] at hm ⊢;rw [List.drop_of_length_le (by rw [hci];exact ye _)]
   exact hm) (fun _ hk=>hk)⟩
  have hPg : P0_ g:=ho1.1 g rfl;have G2:=zh (yA HP.out.2 (Kept.of_below hbw1 (fun k_=>P0_ k_)) (fun k hk => .inl (by injection hk with hk;subst hk;exact hPg)));have G3:=zh (pw_below_grown hB1 (some g) hB1.size HP.out.2 (fun k hk=>by injection hk with hk;subst hk;exact gb));clear hci hMi hcci hfi ho1 hV;have q0:=zz hVb1 0;have q1:=zz hVb1 1;have q2:=zz hVb1 2;have q3:=zz hVb1 3
  go_wp2_with fail
  go_ret
  exact ⟨_,rfl,zM HP.out.1 (fun _ hk => .inl hk),G3.out,G2.out⟩
 | false =>
  rw [if_neg (by simp)] at h
  by_cases hil : i≤(l0.length : Int)
  case neg=>rw [if_neg hil] at h;cases h
  rw [if_pos hil] at h
  by_cases hlim : (l0.length+1)*48≤140737488355328
  case neg=>rw [if_neg hlim] at h;cases h
  rw [if_pos hlim] at h;obtain rfl:=zU h;clear h hF
  go_enter Try.func27,Try.ntmps27
  go_wp2_with fail
  rw [← hV]
  go_at_call 24
  refine hFC.mono ?_;rintro e w1 ⟨rfl,hb1⟩;have hVb1:=zD hVb hb1;have ho1:=yg hoV hb1;have hB1:=zC hBV hb1;have hbw1:=zC hbV hb1;obtain ⟨n,rfl⟩ : ∃ n : Nat,i=(n : Int):=⟨i.toNat,jH⟩;have hI:=slices_Insert_fields.ins (fun k_=>P0_ k_∨w.heap.size≤k_) (fun _=>False) w0.heap.size (.slice A l0.length c) l0 x [.string a1_0,.int .i64 a1_1,.int .i64 a1_2,.string a1_3] n w0 w1 jH (zM ho1 (fun _ hk => .inl hk)) (by rw [hx];exact k43_mkM _ _ _ _) (fun _ hk=>hk.elim) (fun q hq => .inr (Nat.le_trans hbw1.size hq)) hB1 hB1.size hlim;have q0:=zz hVb1 0;have q1:=zz hVb1 1;have q2:=zz hVb1 2;have q3:=zz hVb1 3;have hob : ∀ k_,(Value.slice A l0.length c).ownBlock=some k_→P0_ k_:=ho1.1;clear hV hFC ho0 hoV ho1
  go_wp2_with fail
  go_at_call 49
  refine hI.mono ?_;rintro e w2 ⟨v1,rfl,hR,hB2,hg,-⟩
  go_wp2_with fail
  go_ret
  exact ⟨v1,rfl,hR,hB2,yA hg (Kept.of_below hbw1 _) (fun k_ hk => .inl (hob k_ hk))⟩

end Go.Proofs.Ytoinoihiknmnmaa.Q
end

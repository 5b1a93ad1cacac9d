/- FnExactKeyOf: for all arguments the law answers true, and they read behind the call as they read before. No condition. -/
import Derived.Test.YtjaknpeeopkojaaKLawFnExactKeyOfp25
import Derived.Test.YtjaknpeeopkojaaKLawFnExactKeyOfp23
import Derived.ProofKit
import Derived.OpenShut
import Derived.ShutString
import Derived.ChangeOld
import Derived.SizedLaws
import Derived.Deep.Slices
import Derived.Lib.SmallJoins
import Derived.Laws.Entries
import Derived.Test.YtjaknpeeopkojaaRows
import Derived.Carry
section
namespace Go.Proofs.Ytjaknpeeopkojaa.Q
open Go.RowKit Go.Proofs.YtjaknpeeopkojaaW.PrintWords Go.Proofs.YtjaknpeeopkojaaW.PrintLast Go.Proofs.YtjaknpeeopkojaaW.PrintMore
attribute [local go_sem] max2_int min2_int max_two min_two max_three min_three max_four min_four max2_str min2_str str_geq str_gtr str_leq   -- for this text's walks alone
set_option linter.unusedVariables false
set_option linter.unusedSimpArgs false

mutual
def F3.l0 : Nat→List Int→List (S27)→Int→Int→Option (List Int)
 | 0,_,_,_,_ => none
 | k + 1,x0,x51,x52,x53 => if x53<x52 then (if 0≤x53 then (if x53<(x51.length : Int) then ((F3.f k x0 ((rd_T27 x51 x53).f0) ((rd_T27 x51 x53).f1) ((rd_T27 x51 x53).f2)).bind fun t371 => (F3.l0 k t371 x51 x52 (wrap64 (x53 + 1)))) else (none)) else (none)) else (if x0.length<140737488355328 then (some (x0 ++ [0])) else (none))
def F3.l1 : Nat→List Int→List (S54)→Int→Int→Option (List Int)
 | 0,_,_,_,_ => none
 | k + 1,x0,x71,x72,x73 => if x73<x72 then (if 0≤x73 then (if x73<(x71.length : Int) then (if x0.length<140737488355328 then ((Fe.f k (x0 ++ [1]) ((rd_T54 x71 x73).f0)).bind fun t386 => ((F3.f k t386 ((rd_T54 x71 x73).f1.f0) ((rd_T54 x71 x73).f1.f1) ((rd_T54 x71 x73).f1.f2)).bind fun t389 => (F3.l1 k t389 x71 x72 (wrap64 (x73 + 1))))) else (none)) else (none)) else (none)) else (if x0.length<140737488355328 then (some (x0 ++ [0])) else (none))
def F3.f : Nat→List Int→Int→Int→ByteArray→Option (List Int)
 | 0,_,_,_,_ => none
 | k + 1,l0,a1_0,a1_1,a1_2 => if l0.length<140737488355328 then ((some (l0 ++ [(wrap64 (a1_0 + 1)) % 256] : List Int)).bind fun y350 => (if a1_0=1 then (if y350.length<140737488355328 then (some (y350 ++ [(a1_1) % 256])) else (none)) else (if a1_0=2 then ((Fh.f k (wrap64 (a1_1 + 4611686018427387904))).bind fun t356 => (if y350.length + t356.length<140737488355328 then (some (y350 ++ t356)) else (none))) else (if a1_0=3 then ((Fe.f k y350 a1_2).bind fun t362 => (some t362)) else (if a1_0=4 then ((F8.f k a1_0 a1_1 a1_2).bind fun bt365 => (F3.l0 k y350 bt365.1 (bt365.1.length : Int) 0)) else (if a1_0=5 then ((F5.f k a1_0 a1_1 a1_2).bind fun bt377 => (F3.l1 k y350 bt377.1 (bt377.1.length : Int) 0)) else (some y350))))))) else (none)
end
theorem F3.mono_l : ∀ k,(∀ y0 y1 y2 y3,LeO (F3.f k y0 y1 y2 y3) (F3.f (k + 1) y0 y1 y2 y3))∧(∀ y0 y1 y2 y3,LeO (F3.l0 k y0 y1 y2 y3) (F3.l0 (k + 1) y0 y1 y2 y3))∧(∀ y0 y1 y2 y3,LeO (F3.l1 k y0 y1 y2 y3) (F3.l1 (k + 1) y0 y1 y2 y3))
 | 0 => ⟨fun _ _ _ _ r h => by simp [F3.f] at h,fun _ _ _ _ r h => by simp [F3.l0] at h,fun _ _ _ _ r h => by simp [F3.l1] at h⟩
 | k + 1 => by
  obtain ⟨ih0,ih1,ih2⟩:=F3.mono_l k;refine ⟨?_,?_,?_⟩
  ·
   intro y0 y1 y2 y3
   unfold F3.f
   repeat' first|(with_reducible first|exact ih0 _ _ _ _|exact ih1 _ _ _ _|exact ih2 _ _ _ _|exact F5.mono _ _ _ _|exact Fh.mono _ _|exact Fe.mono _ _ _|exact F8.mono _ _ _ _|exact zQ _|exact zN _|refine zP ?_ ?_|refine zO ?_ (fun _ => ?_))|refine zP ?_ ?_|refine zO ?_ (fun _ => ?_)
  ·
   intro y0 y1 y2 y3
   unfold F3.l0
   repeat' first|(with_reducible first|exact ih0 _ _ _ _|exact ih1 _ _ _ _|exact ih2 _ _ _ _|exact F5.mono _ _ _ _|exact Fh.mono _ _|exact Fe.mono _ _ _|exact F8.mono _ _ _ _|exact zQ _|exact zN _|refine zP ?_ ?_|refine zO ?_ (fun _ => ?_))|refine zP ?_ ?_|refine zO ?_ (fun _ => ?_)
  intro y0 y1 y2 y3;unfold F3.l1
  repeat' first|(with_reducible first|exact ih0 _ _ _ _|exact ih1 _ _ _ _|exact ih2 _ _ _ _|exact F5.mono _ _ _ _|exact Fh.mono _ _|exact Fe.mono _ _ _|exact F8.mono _ _ _ _|exact zQ _|exact zN _|refine zP ?_ ?_|refine zO ?_ (fun _ => ?_))|refine zP ?_ ?_|refine zO ?_ (fun _ => ?_)
theorem F3.mono : ∀ a0 a1 a2 a3 k,LeO (F3.f k a0 a1 a2 a3) (F3.f (k + 1) a0 a1 a2 a3):=by
 intro a0 a1 a2 a3 k;obtain ⟨ih0,ih1,ih2⟩:=F3.mono_l k;exact ih0 a0 a1 a2 a3
def F3.T22 : Bool×List (List Nat×List Nat):=(true,[([],[]),([],[]),([0,1],[0,1]),([],[]),([3],[3]),([2,4,2],[2,4]),([],[]),([6],[6]),([5,7,5],[5,7]),([8,8,0,1,2,3,4,5,6,7,8],[0,8])])
def F3.B22 : List Nat:=[0,0,3,0,8,31,0,64,255,511]
theorem F3.tab22 : rtab .any (opsOf Try.f46 22)=F3.T22:=by kernel_rfl
theorem F3.bits22 : waitsOk F3.T22.2 F3.B22=true:=by kernel_rfl
set_option maxHeartbeats 8000000 in
set_option maxRecDepth 100000 in
theorem F3.calls (k : Nat) : ∀ (P0_ : Nat→Prop) (u9000_ : Value) (l0 : List Int) (a1_0 : Int) (a1_1 : Int) (a1_2 : ByteArray) (r : List Int) (w0 w : World) (hB : Below w0.heap.size w0 w) (ho0 : Kd.R (Kd.int .u8) 5 w w0.heap.size P0_ u9000_ l0) (h : F3.f k l0 a1_0 a1_1 a1_2=some r),
  Calls Try.prog 46 #[u9000_,.agg #[.int .i64 a1_0,.int .i64 a1_1,.string a1_2]] w fun e w' => ∃ v0_ : Value,e = .returned (v0_)∧Kd.R (Kd.int .u8) 5 w' w0.heap.size (fun k_ => (P0_ k_∨w.heap.size≤k_)) v0_ r∧Below w0.heap.size w0 w' ∧ Kept w w' (fun k_ => P0_ k_):=by
 induction k using Nat.strongRecOn with
 | _ k ih =>
 intro P0_ u9000_ l0 a1_0 a1_1 a1_2 r w0 w hB ho0 h
 cases k with
 | zero => exact absurd h (by simp [F3.f])
 | succ k =>
 simp only [F3.f] at h;have hu27:=Try.underlying27;have hu54:=Try.underlying54;have HO0:=zh (show Kd.R (Kd.int .u8) 5 w w0.heap.size (fun k_ => (P0_ k_∨w.heap.size≤k_)) u9000_ l0 from zM ho0 (fun k_ hk => (.inl hk)));have HK:=zh (Kept.refl w (fun k_ => P0_ k_));have HW0:=zh hB.size;have HB:=zh hB;clear hB;have H : (if l0.length<140737488355328 then ((some (l0 ++ [(wrap64 (a1_0 + 1)) % 256] : List Int)).bind fun y350 => (if a1_0=1 then (if y350.length<140737488355328 then (some (y350 ++ [(a1_1) % 256])) else (none)) else (if a1_0=2 then ((Fh.f k (wrap64 (a1_1 + 4611686018427387904))).bind fun t356 => (if y350.length + t356.length<140737488355328 then (some (y350 ++ t356)) else (none))) else (if a1_0=3 then ((Fe.f k y350 a1_2).bind fun t362 => (some t362)) else (if a1_0=4 then ((F8.f k a1_0 a1_1 a1_2).bind fun bt365 => (F3.l0 k y350 bt365.1 (bt365.1.length : Int) 0)) else (if a1_0=5 then ((F5.f k a1_0 a1_1 a1_2).bind fun bt377 => (F3.l1 k y350 bt377.1 (bt377.1.length : Int) 0)) else (some y350))))))) else (none))=some r:=h;clear h
 by_cases c3 : l0.length<140737488355328
 ·
  rw [if_pos c3] at H
  have LMc3:=zh c3;clear c3;obtain ⟨y350,hy350⟩ : ∃ y_ : List Int,y_=(l0 ++ [(wrap64 (a1_0 + 1)) % 256]):=⟨_,rfl⟩;replace H : (if a1_0=1 then (if y350.length<140737488355328 then (some (y350 ++ [(a1_1) % 256])) else (none)) else (if a1_0=2 then ((Fh.f k (wrap64 (a1_1 + 4611686018427387904))).bind fun t356 => (if y350.length + t356.length<140737488355328 then (some (y350 ++ t356)) else (none))) else (if a1_0=3 then ((Fe.f k y350 a1_2).bind fun t362 => (some t362)) else (if a1_0=4 then ((F8.f k a1_0 a1_1 a1_2).bind fun bt365 => (F3.l0 k y350 bt365.1 (bt365.1.length : Int) 0)) else (if a1_0=5 then ((F5.f k a1_0 a1_1 a1_2).bind fun bt377 => (F3.l1 k y350 bt377.1 (bt377.1.length : Int) 0)) else (some y350))))))=some r:=by first|(rw [hy350];with_reducible exact H)|(have H2_:=(Option.bind_some _ _).symm.trans H;rw [hy350];with_reducible exact H2_)|(have H2_:=(Option.bind_some _ _).symm.trans H;with_reducible exact H2_)|with_reducible exact H|(rw [hy350];exact H)|exact H
  have Ny350:=zh hy350;clear hy350
  by_cases c4 : a1_0=1
  ·
   rw [if_pos c4] at H
   have c4b0 : (a1_0 == 1)=true:=ya.mpr c4;have c4b1 : (a1_0 != 1)=false:=zX.mpr c4;clear c4
   by_cases c5 : y350.length<140737488355328
   ·
    rw [if_pos c5] at H
    have LMc5:=zh c5;clear c5;obtain ⟨y353,hy353⟩ : ∃ y_ : List Int,y_=(y350 ++ [(a1_1) % 256]):=⟨_,rfl⟩;replace H : (some y353)=some r:=by first|(rw [hy353];with_reducible exact H)|(have H2_:=(Option.bind_some _ _).symm.trans H;rw [hy353];with_reducible exact H2_)|(have H2_:=(Option.bind_some _ _).symm.trans H;with_reducible exact H2_)|with_reducible exact H|(rw [hy353];exact H)|exact H
    have Ny353:=zh hy353;clear hy353;obtain rfl:=zU H
    go_enter Try.func46,Try.ntmps46
    go_wp2_with (first|((with_reducible refine zK (N:=3) rfl ?_);refine zI ?hg (N:=3) ?hd (cs:=#[.int .i64 a1_0,.int .i64 a1_1,.string a1_2]) (t:=27) ?hr ?_;(case hd => rfl);(case hg => rfl);(case hr => first|(go_simp;done)|(go_simp;rfl));intro gb349 hg w6 hbox hb;replace HO0:=zh (yg (by (with_reducible repeat (first|apply zm|apply zn|apply zo));exact HO0.out) hb);have BK349:=zh (hbox);have GW349:=zh ((by rw [hg];exact (by first|exact HK.out.1|exact (show Kept w _ (fun k_ => P0_ k_) from by repeat (with_reducible first|exact HK.out|apply zr|apply zp|apply zq)).1) : w.heap.size≤gb349));replace HK:=zh (Kept.below (S:=(fun k_ => P0_ k_)) (by repeat (with_reducible first|exact HK.out|apply zr|apply zp|apply zq)) hb);have GE349:=zh ((by rw [hg];exact (zB (by repeat (with_reducible first|exact HB.out|apply za|apply zb|apply zc))) : w0.heap.size≤gb349));replace HB:=zh (zC (by repeat (with_reducible first|exact HB.out|apply za|apply zb|apply zc)) hb);clear hb hbox hg;have hcz7_0 : w6.cell? ⟨gb349,0,none⟩=some (.int .i64 a1_0):=(zz BK349.out 0).trans rfl;have hcz7_1 : w6.cell? ⟨gb349,1,none⟩=some (.int .i64 a1_1):=(zz BK349.out 1).trans rfl;have hcz7_2 : w6.cell? ⟨gb349,2,none⟩=some (.string a1_2):=(zz BK349.out 2).trans rfl;have hfz7_0:=zA BK349.out 0;have hfz7_1:=zA BK349.out 1;have hfz7_2:=zA BK349.out 2)|((with_reducible refine yB (b:=.append) (xs:=#[.tmp 13,.tmp 18]) rfl ?_);at_builtin;refine Kd.R_append (Kd.int .u8) (w0:=w0) w0.heap.size rfl (.tmp 13) (.tmp 18) 66 5 (.int .u8 0) 1 rfl Try.underlying66 info5 rfl (by decide) (by omega) u9000_ l0 ((wrap64 (a1_0 + 1)) % 256) [.int .u8 ((wrap64 (a1_0 + 1)) % 256)] (fun k_ => (P0_ k_∨w.heap.size≤k_)) (fun _ => False) rfl rfl ?aP (fun _ hk => hk.elim) ?aF ?aO ?aB ?aS ?aL ?_;(case aP => exact rfl);(case aB => exact (by repeat (with_reducible first|exact HB.out|apply za|apply zb|apply zc|refine zd ?_ GE349.out)));(case aF => exact (fun k_ hk => (.inr (Nat.le_trans (by first|exact HK.out.1|exact (show Kept w _ (fun k_ => P0_ k_) from by repeat (with_reducible first|exact HK.out|apply zr|apply zp|apply zq|refine zs ?_ (.inr GW349.out) _)).1) hk))));(case aO => exact (by (with_reducible repeat (first|apply zm|apply zn|apply zo));exact HO0.out));(case aS => exact (zB (by repeat (with_reducible first|exact HB.out|apply za|apply zb|apply zc|refine zd ?_ GE349.out))));(case aL => have:=LMc3.out;omega);intro v351 w8 ho hb hg hat;rw [← Ny350.out] at ho;replace BK349:=zh (yw (g:=gb349) (o:=.cells #[.int .i64 a1_0,.int .i64 a1_1,.string a1_2] 27 (0,0)) (by (with_reducible repeat (first|refine ze ?_ _|refine zf ?_|refine zg ?_ _));exact BK349.out) hg (Kd.R_ne HO0.out BK349.out (by decide)));replace HB:=zh (hb);replace HK:=zh (yA (S:=(fun k_ => P0_ k_)) hg (by repeat (with_reducible first|exact HK.out|apply zr|apply zp|apply zq|refine zs ?_ (.inr GW349.out) _)) (fun k_ e_ => (HO0.out.1 k_ e_)));have HO352:=zh (ho);clear HO0 ho hb hg hat;have hcz9_0 : w8.cell? ⟨gb349,0,none⟩=some (.int .i64 a1_0):=(zz BK349.out 0).trans rfl;have hcz9_1 : w8.cell? ⟨gb349,1,none⟩=some (.int .i64 a1_1):=(zz BK349.out 1).trans rfl;have hcz9_2 : w8.cell? ⟨gb349,2,none⟩=some (.string a1_2):=(zz BK349.out 2).trans rfl;have hfz9_0:=zA BK349.out 0;have hfz9_1:=zA BK349.out 1;have hfz9_2:=zA BK349.out 2)|((with_reducible refine yB (b:=.append) (xs:=#[.tmp 24,.tmp 28]) rfl ?_);at_builtin;refine Kd.R_append (Kd.int .u8) (w0:=w0) w0.heap.size rfl (.tmp 24) (.tmp 28) 66 5 (.int .u8 0) 1 rfl Try.underlying66 info5 rfl (by decide) (by omega) v351 y350 ((a1_1) % 256) [.int .u8 ((a1_1) % 256)] (fun k_ => (P0_ k_∨w.heap.size≤k_)) (fun _ => False) rfl rfl ?aP (fun _ hk => hk.elim) ?aF ?aO ?aB ?aS ?aL ?_;(case aP => exact rfl);(case aB => exact (by repeat (with_reducible first|exact HB.out|apply za|apply zb|apply zc|refine zd ?_ GE349.out)));(case aF => exact (fun k_ hk => (.inr (Nat.le_trans (by first|exact HK.out.1|exact (show Kept w _ (fun k_ => P0_ k_) from by repeat (with_reducible first|exact HK.out|apply zr|apply zp|apply zq|refine zs ?_ (.inr GW349.out) _)).1) hk))));(case aO => exact (by (with_reducible repeat (first|apply zm|apply zn|apply zo));exact HO352.out));(case aS => exact (zB (by repeat (with_reducible first|exact HB.out|apply za|apply zb|apply zc|refine zd ?_ GE349.out))));(case aL => have:=LMc5.out;omega);intro v354 w10 ho hb hg hat;rw [← Ny353.out] at ho;replace BK349:=zh (yw (g:=gb349) (o:=.cells #[.int .i64 a1_0,.int .i64 a1_1,.string a1_2] 27 (0,0)) (by (with_reducible repeat (first|refine ze ?_ _|refine zf ?_|refine zg ?_ _));exact BK349.out) hg (Kd.R_ne HO352.out BK349.out (by decide)));replace HB:=zh (hb);replace HK:=zh (yA (S:=(fun k_ => P0_ k_)) hg (by repeat (with_reducible first|exact HK.out|apply zr|apply zp|apply zq|refine zs ?_ (.inr GW349.out) _)) (fun k_ e_ => (HO352.out.1 k_ e_)));have HO355:=zh (ho);clear HO352 ho hb hg hat))
    go_ret
    exact ⟨_,by first|rfl|(simp [yt,yu] <;> rfl)|(simp [*,yt,yu] <;> rfl),by (with_reducible repeat (first|apply zm|apply zn|apply zo));exact HO355.out,by repeat (with_reducible first|exact HB.out|apply za|apply zb|apply zc|refine zd ?_ GE349.out),by repeat (with_reducible first|exact HK.out|apply zr|apply zp|apply zq|refine zs ?_ (.inr GW349.out) _)⟩
   rw [if_neg c5] at H;exact absurd H (by simp)
  rw [if_neg c4] at H;have c4b0 : (a1_0 == 1)=false:=zY.mpr c4;have c4b1 : (a1_0 != 1)=true:=zZ.mpr c4
  by_cases c11 : a1_0=2
  ·
   rw [if_pos c11] at H
   have c11b0 : (a1_0 == 2)=true:=ya.mpr c11;have c11b1 : (a1_0 != 2)=false:=zX.mpr c11;clear c11;replace H:=zT.mp H;obtain ⟨t356,A120,H⟩:=H;replace H : (if y350.length + t356.length<140737488355328 then (some (y350 ++ t356)) else (none))=some r:=H;have A12:=zh A120;clear A120
   by_cases c13 : y350.length + t356.length<140737488355328
   ·
    rw [if_pos c13] at H
    have LMc13:=zh c13;clear c13;obtain ⟨y359,hy359⟩ : ∃ y_ : List Int,y_=(y350 ++ t356):=⟨_,rfl⟩;replace H : (some y359)=some r:=by first|(rw [hy359];with_reducible exact H)|(have H2_:=(Option.bind_some _ _).symm.trans H;rw [hy359];with_reducible exact H2_)|(have H2_:=(Option.bind_some _ _).symm.trans H;with_reducible exact H2_)|with_reducible exact H|(rw [hy359];exact H)|exact H
    have Ny359:=zh hy359;clear hy359;obtain rfl:=zU H
    go_enter Try.func46,Try.ntmps46
    go_wp2_with (first|((with_reducible refine zK (N:=3) rfl ?_);refine zI ?hg (N:=3) ?hd (cs:=#[.int .i64 a1_0,.int .i64 a1_1,.string a1_2]) (t:=27) ?hr ?_;(case hd => rfl);(case hg => rfl);(case hr => first|(go_simp;done)|(go_simp;rfl));intro gb349 hg w14 hbox hb;replace HO0:=zh (yg (by (with_reducible repeat (first|apply zm|apply zn|apply zo));exact HO0.out) hb);have BK349:=zh (hbox);have GW349:=zh ((by rw [hg];exact (by first|exact HK.out.1|exact (show Kept w _ (fun k_ => P0_ k_) from by repeat (with_reducible first|exact HK.out|apply zr|apply zp|apply zq)).1) : w.heap.size≤gb349));replace HK:=zh (Kept.below (S:=(fun k_ => P0_ k_)) (by repeat (with_reducible first|exact HK.out|apply zr|apply zp|apply zq)) hb);have GE349:=zh ((by rw [hg];exact (zB (by repeat (with_reducible first|exact HB.out|apply za|apply zb|apply zc))) : w0.heap.size≤gb349));replace HB:=zh (zC (by repeat (with_reducible first|exact HB.out|apply za|apply zb|apply zc)) hb);clear hb hbox hg;have hcz15_0 : w14.cell? ⟨gb349,0,none⟩=some (.int .i64 a1_0):=(zz BK349.out 0).trans rfl;have hcz15_1 : w14.cell? ⟨gb349,1,none⟩=some (.int .i64 a1_1):=(zz BK349.out 1).trans rfl;have hcz15_2 : w14.cell? ⟨gb349,2,none⟩=some (.string a1_2):=(zz BK349.out 2).trans rfl;have hfz15_0:=zA BK349.out 0;have hfz15_1:=zA BK349.out 1;have hfz15_2:=zA BK349.out 2)|((with_reducible refine yB (b:=.append) (xs:=#[.tmp 13,.tmp 18]) rfl ?_);at_builtin;refine Kd.R_append (Kd.int .u8) (w0:=w0) w0.heap.size rfl (.tmp 13) (.tmp 18) 66 5 (.int .u8 0) 1 rfl Try.underlying66 info5 rfl (by decide) (by omega) u9000_ l0 ((wrap64 (a1_0 + 1)) % 256) [.int .u8 ((wrap64 (a1_0 + 1)) % 256)] (fun k_ => (P0_ k_∨w.heap.size≤k_)) (fun _ => False) rfl rfl ?aP (fun _ hk => hk.elim) ?aF ?aO ?aB ?aS ?aL ?_;(case aP => exact rfl);(case aB => exact (by repeat (with_reducible first|exact HB.out|apply za|apply zb|apply zc|refine zd ?_ GE349.out)));(case aF => exact (fun k_ hk => (.inr (Nat.le_trans (by first|exact HK.out.1|exact (show Kept w _ (fun k_ => P0_ k_) from by repeat (with_reducible first|exact HK.out|apply zr|apply zp|apply zq|refine zs ?_ (.inr GW349.out) _)).1) hk))));(case aO => exact (by (with_reducible repeat (first|apply zm|apply zn|apply zo));exact HO0.out));(case aS => exact (zB (by repeat (with_reducible first|exact HB.out|apply za|apply zb|apply zc|refine zd ?_ GE349.out))));(case aL => have:=LMc3.out;omega);intro v351 w16 ho hb hg hat;rw [← Ny350.out] at ho;replace BK349:=zh (yw (g:=gb349) (o:=.cells #[.int .i64 a1_0,.int .i64 a1_1,.string a1_2] 27 (0,0)) (by (with_reducible repeat (first|refine ze ?_ _|refine zf ?_|refine zg ?_ _));exact BK349.out) hg (Kd.R_ne HO0.out BK349.out (by decide)));replace HB:=zh (hb);replace HK:=zh (yA (S:=(fun k_ => P0_ k_)) hg (by repeat (with_reducible first|exact HK.out|apply zr|apply zp|apply zq|refine zs ?_ (.inr GW349.out) _)) (fun k_ e_ => (HO0.out.1 k_ e_)));have HO352:=zh (ho);clear HO0 ho hb hg hat;have hcz17_0 : w16.cell? ⟨gb349,0,none⟩=some (.int .i64 a1_0):=(zz BK349.out 0).trans rfl;have hcz17_1 : w16.cell? ⟨gb349,1,none⟩=some (.int .i64 a1_1):=(zz BK349.out 1).trans rfl;have hcz17_2 : w16.cell? ⟨gb349,2,none⟩=some (.string a1_2):=(zz BK349.out 2).trans rfl;have hfz17_0:=zA BK349.out 0;have hfz17_1:=zA BK349.out 1;have hfz17_2:=zA BK349.out 2)|((with_reducible refine zJ (f:=72) rfl ?_);refine yj (some 36) rfl rfl Try.func72 (by kernel_rfl) rfl #[.int .i64 (wrap64 (a1_1 + 4611686018427387904))] rfl (by (try simp only [zt,zu,zv]);first|done|rfl|(simp only [zw,zx];rfl)|(simp only [yr,ys,zV,zW];rfl)) ?_;(with_reducible refine (Fh.calls k  (wrap64 (a1_1 + 4611686018427387904)) t356 _ A12.out).mono ?_);rintro e w18 ⟨v357,rfl,ho0,hb⟩;refine ⟨_,rfl,?_⟩;have HO358:=zh (yy (Kd.R_new' (Kd.R_newM (M:=fun k_ => (P0_ k_∨w.heap.size≤k_)) ho0 (by first|exact HK.out.1|exact (show Kept w _ (fun k_ => P0_ k_) from by repeat (with_reducible first|exact HK.out|apply zr|apply zp|apply zq|refine zs ?_ (.inr GW349.out) _)).1) (fun k_ h_ => .inr h_)) (Kd.R_lt (by (with_reducible repeat (first|apply zm|apply zn|apply zo));exact HO352.out))) (zB (by repeat (with_reducible first|exact HB.out|apply za|apply zb|apply zc|refine zd ?_ GE349.out))));replace HO352:=zh (Kd.R_elder' (by (with_reducible repeat (first|apply zm|apply zn|apply zo));exact HO352.out) (Kd.R_base ho0) hb);replace BK349:=zh (zD (g:=gb349) (o:=.cells #[.int .i64 a1_0,.int .i64 a1_1,.string a1_2] 27 (0,0)) (by (with_reducible repeat (first|refine ze ?_ _|refine zf ?_|refine zg ?_ _));exact BK349.out) hb);replace HK:=zh (Kept.below (S:=(fun k_ => P0_ k_)) (by repeat (with_reducible first|exact HK.out|apply zr|apply zp|apply zq|refine zs ?_ (.inr GW349.out) _)) hb);replace HB:=zh (zC (by repeat (with_reducible first|exact HB.out|apply za|apply zb|apply zc|refine zd ?_ GE349.out)) hb);(try clear hb);(try clear hb2);(try clear hk);(try clear hi);(try clear ho0);obtain ⟨Ao20,co20,eo20⟩:=yk HO358.out;subst eo20)|((with_reducible refine yB (b:=.append) (xs:=#[.tmp 32,.tmp 36]) rfl ?_);at_builtin;refine Kd.R_append_rows (Kd.int .u8) (w0:=w0) w0.heap.size rfl (.tmp 32) (.tmp 36) 66 5 (.int .u8 0) 1 rfl Try.underlying66 info5 rfl (by decide) (by omega) v351 y350 t356 _ _ _ (fun k_ => (P0_ k_∨w.heap.size≤k_)∧some k_≠(.slice Ao20 t356.length co20 : Value).ownBlock) (fun _ => False) rfl rfl ?aO ?aR (fun _ _ h => h) (fun _ h => h.elim) ?aF ?aB ?aS ?aL ?_;(case aR => repeat (first|exact (yh HO358.out).2.2|(with_reducible refine Kd.C_alloc ?_ _)|(with_reducible refine Kd.C_drewN ?_ _)|(with_reducible refine Kd.C_drew ?_)));(case aB => exact (by repeat (with_reducible first|exact HB.out|apply za|apply zb|apply zc|refine zd ?_ GE349.out)));(case aF => exact (fun k_ hk => ⟨(.inr (Nat.le_trans (by first|exact HK.out.1|exact (show Kept w _ (fun k_ => P0_ k_) from by repeat (with_reducible first|exact HK.out|apply zr|apply zp|apply zq|refine zs ?_ (.inr GW349.out) _)).1) hk)),Kd.fresh' (Kd.R_lt (by (with_reducible repeat (first|apply zm|apply zn|apply zo));exact HO358.out)) k_ hk⟩));(case aO => exact (by (with_reducible repeat (first|apply zm|apply zn|apply zo));exact HO352.out));(case aS => exact (zB (by repeat (with_reducible first|exact HB.out|apply za|apply zb|apply zc|refine zd ?_ GE349.out))));(case aL => have:=LMc13.out;omega);intro v360 w19 ho hb hg hat;rw [← Ny359.out] at ho;replace BK349:=zh (yw (g:=gb349) (o:=.cells #[.int .i64 a1_0,.int .i64 a1_1,.string a1_2] 27 (0,0)) (by (with_reducible repeat (first|refine ze ?_ _|refine zf ?_|refine zg ?_ _));exact BK349.out) hg (Kd.R_ne HO352.out BK349.out (by decide)));replace HO358:=zh (Kd.R_after (ok:=(fun k_ => (P0_ k_∨w.heap.size≤k_))) (by (with_reducible repeat (first|apply zm|apply zn|apply zo));exact zM HO358.out (fun _ hk => ⟨hk.1.1,hk.2⟩)) hg hat);replace HB:=zh (hb);replace HK:=zh (yA (S:=(fun k_ => P0_ k_)) hg (by repeat (with_reducible first|exact HK.out|apply zr|apply zp|apply zq|refine zs ?_ (.inr GW349.out) _)) (fun k_ e_ => (HO352.out.1 k_ e_).1));have HO361:=zh (ho);clear HO352 ho hb hg hat))
    go_ret
    exact ⟨_,by first|rfl|(simp [yt,yu] <;> rfl)|(simp [*,yt,yu] <;> rfl),by (with_reducible repeat (first|apply zm|apply zn|apply zo));exact zM HO361.out (fun _ hk => hk.1),by repeat (with_reducible first|exact HB.out|apply za|apply zb|apply zc|refine zd ?_ GE349.out),by repeat (with_reducible first|exact HK.out|apply zr|apply zp|apply zq|refine zs ?_ (.inr GW349.out) _)⟩
   rw [if_neg c13] at H;exact absurd H (by simp)
  rw [if_neg c11] at H;have c11b0 : (a1_0 == 2)=false:=zY.mpr c11;have c11b1 : (a1_0 != 2)=true:=zZ.mpr c11
  by_cases c21 : a1_0=3
  ·
   rw [if_pos c21] at H
   have c21b0 : (a1_0 == 3)=true:=ya.mpr c21;have c21b1 : (a1_0 != 3)=false:=zX.mpr c21;clear c21;replace H:=zT.mp H;obtain ⟨t362,A220,H⟩:=H;replace H : (some t362)=some r:=H;have A22:=zh A220;clear A220;obtain rfl:=zU H
   go_enter Try.func46,Try.ntmps46
   go_wp2_with (first|((with_reducible refine zK (N:=3) rfl ?_);refine zI ?hg (N:=3) ?hd (cs:=#[.int .i64 a1_0,.int .i64 a1_1,.string a1_2]) (t:=27) ?hr ?_;(case hd => rfl);(case hg => rfl);(case hr => first|(go_simp;done)|(go_simp;rfl));intro gb349 hg w23 hbox hb;replace HO0:=zh (yg (by (with_reducible repeat (first|apply zm|apply zn|apply zo));exact HO0.out) hb);have BK349:=zh (hbox);have GW349:=zh ((by rw [hg];exact (by first|exact HK.out.1|exact (show Kept w _ (fun k_ => P0_ k_) from by repeat (with_reducible first|exact HK.out|apply zr|apply zp|apply zq)).1) : w.heap.size≤gb349));replace HK:=zh (Kept.below (S:=(fun k_ => P0_ k_)) (by repeat (with_reducible first|exact HK.out|apply zr|apply zp|apply zq)) hb);have GE349:=zh ((by rw [hg];exact (zB (by repeat (with_reducible first|exact HB.out|apply za|apply zb|apply zc))) : w0.heap.size≤gb349));replace HB:=zh (zC (by repeat (with_reducible first|exact HB.out|apply za|apply zb|apply zc)) hb);clear hb hbox hg;have hcz24_0 : w23.cell? ⟨gb349,0,none⟩=some (.int .i64 a1_0):=(zz BK349.out 0).trans rfl;have hcz24_1 : w23.cell? ⟨gb349,1,none⟩=some (.int .i64 a1_1):=(zz BK349.out 1).trans rfl;have hcz24_2 : w23.cell? ⟨gb349,2,none⟩=some (.string a1_2):=(zz BK349.out 2).trans rfl;have hfz24_0:=zA BK349.out 0;have hfz24_1:=zA BK349.out 1;have hfz24_2:=zA BK349.out 2)|((with_reducible refine yB (b:=.append) (xs:=#[.tmp 13,.tmp 18]) rfl ?_);at_builtin;refine Kd.R_append (Kd.int .u8) (w0:=w0) w0.heap.size rfl (.tmp 13) (.tmp 18) 66 5 (.int .u8 0) 1 rfl Try.underlying66 info5 rfl (by decide) (by omega) u9000_ l0 ((wrap64 (a1_0 + 1)) % 256) [.int .u8 ((wrap64 (a1_0 + 1)) % 256)] (fun k_ => (P0_ k_∨w.heap.size≤k_)) (fun _ => False) rfl rfl ?aP (fun _ hk => hk.elim) ?aF ?aO ?aB ?aS ?aL ?_;(case aP => exact rfl);(case aB => exact (by repeat (with_reducible first|exact HB.out|apply za|apply zb|apply zc|refine zd ?_ GE349.out)));(case aF => exact (fun k_ hk => (.inr (Nat.le_trans (by first|exact HK.out.1|exact (show Kept w _ (fun k_ => P0_ k_) from by repeat (with_reducible first|exact HK.out|apply zr|apply zp|apply zq|refine zs ?_ (.inr GW349.out) _)).1) hk))));(case aO => exact (by (with_reducible repeat (first|apply zm|apply zn|apply zo));exact HO0.out));(case aS => exact (zB (by repeat (with_reducible first|exact HB.out|apply za|apply zb|apply zc|refine zd ?_ GE349.out))));(case aL => have:=LMc3.out;omega);intro v351 w25 ho hb hg hat;rw [← Ny350.out] at ho;replace BK349:=zh (yw (g:=gb349) (o:=.cells #[.int .i64 a1_0,.int .i64 a1_1,.string a1_2] 27 (0,0)) (by (with_reducible repeat (first|refine ze ?_ _|refine zf ?_|refine zg ?_ _));exact BK349.out) hg (Kd.R_ne HO0.out BK349.out (by decide)));replace HB:=zh (hb);replace HK:=zh (yA (S:=(fun k_ => P0_ k_)) hg (by repeat (with_reducible first|exact HK.out|apply zr|apply zp|apply zq|refine zs ?_ (.inr GW349.out) _)) (fun k_ e_ => (HO0.out.1 k_ e_)));have HO352:=zh (ho);clear HO0 ho hb hg hat;have hcz26_0 : w25.cell? ⟨gb349,0,none⟩=some (.int .i64 a1_0):=(zz BK349.out 0).trans rfl;have hcz26_1 : w25.cell? ⟨gb349,1,none⟩=some (.int .i64 a1_1):=(zz BK349.out 1).trans rfl;have hcz26_2 : w25.cell? ⟨gb349,2,none⟩=some (.string a1_2):=(zz BK349.out 2).trans rfl;have hfz26_0:=zA BK349.out 0;have hfz26_1:=zA BK349.out 1;have hfz26_2:=zA BK349.out 2;obtain ⟨Ao27,co27,eo27⟩:=yk HO352.out;subst eo27)|((with_reducible refine zJ (f:=73) rfl ?_);refine yj (some 43) rfl rfl Try.func73 (by kernel_rfl) rfl #[.slice Ao27 y350.length co27,.string a1_2] rfl (by (try simp only [zt,zu,zv]);first|done|rfl|(simp only [zw,zx];rfl)|(simp only [yr,ys,zV,zW];rfl)) ?_;(with_reducible refine (Fe.calls k  (fun k_ => some k_=(.slice Ao27 y350.length co27 : Value).ownBlock) (.slice Ao27 y350.length co27) y350 a1_2 t362 w0 _ ?side1 ?side2 A22.out).mono ?_);(case side1 => repeat (with_reducible first|exact HB.out|apply za|apply zb|apply zc|refine zd ?_ GE349.out));(case side2 => exact Kd.R_tight rfl HO352.out);rintro e w28 ⟨v363,rfl,ho0,hb,hkp⟩;refine ⟨_,rfl,?_⟩;replace BK349:=zh (blk_kept (by (with_reducible repeat (first|refine ze ?_ _|refine zf ?_|refine zg ?_ _));exact BK349.out) hkp (fun hs_ => (fun e_ => (Kd.R_ne HO352.out BK349.out (by decide)) e_) hs_));have HO364:=zh (zM (ok':=fun k_ => (P0_ k_∨w.heap.size≤k_)) ho0 (fun k_ hk_ => Or.elim hk_ (fun hs_ => (HO352.out.1 k_ (hs_).symm)) (fun hn_ => (.inr (Nat.le_trans (by first|exact HK.out.1|exact (show Kept w _ (fun k_ => P0_ k_) from by repeat (with_reducible first|exact HK.out|apply zr|apply zp|apply zq|refine zs ?_ (.inr GW349.out) _)).1) hn_)))));replace HK:=zh (Kept.then_ (S:=(fun k_ => P0_ k_)) (by repeat (with_reducible first|exact HK.out|apply zr|apply zp|apply zq|refine zs ?_ (.inr GW349.out) _)) hkp (fun k_ hs_ => (fun e_ => (HO352.out.1 k_ e_.symm)) hs_));replace HB:=zh (hb);clear HO352;(try clear hb);(try clear hkp);(try clear ho0)))
   go_ret
   exact ⟨_,by first|rfl|(simp [yt,yu] <;> rfl)|(simp [*,yt,yu] <;> rfl),by (with_reducible repeat (first|apply zm|apply zn|apply zo));exact HO364.out,by repeat (with_reducible first|exact HB.out|apply za|apply zb|apply zc|refine zd ?_ GE349.out),by repeat (with_reducible first|exact HK.out|apply zr|apply zp|apply zq|refine zs ?_ (.inr GW349.out) _)⟩
  rw [if_neg c21] at H;have c21b0 : (a1_0 == 3)=false:=zY.mpr c21;have c21b1 : (a1_0 != 3)=true:=zZ.mpr c21
  by_cases c29 : a1_0=4
  ·
   rw [if_pos c29] at H
   have c29b0 : (a1_0 == 4)=true:=ya.mpr c29;have c29b1 : (a1_0 != 4)=false:=zX.mpr c29;clear c29;replace H:=zT.mp H;obtain ⟨⟨t365,t368⟩,A300,H⟩:=H;replace H : (F3.l0 k y350 t365 (t365.length : Int) 0)=some r:=H;have A30:=zh A300;clear A300;have H':=zh H;clear H
   go_enter Try.func46,Try.ntmps46
   go_wp2_with (first|((with_reducible refine zK (N:=3) rfl ?_);refine zI ?hg (N:=3) ?hd (cs:=#[.int .i64 a1_0,.int .i64 a1_1,.string a1_2]) (t:=27) ?hr ?_;(case hd => rfl);(case hg => rfl);(case hr => first|(go_simp;done)|(go_simp;rfl));intro gb349 hg w31 hbox hb;replace HO0:=zh (yg (by (with_reducible repeat (first|apply zm|apply zn|apply zo));exact HO0.out) hb);have BK349:=zh (hbox);have GW349:=zh ((by rw [hg];exact (by first|exact HK.out.1|exact (show Kept w _ (fun k_ => P0_ k_) from by repeat (with_reducible first|exact HK.out|apply zr|apply zp|apply zq)).1) : w.heap.size≤gb349));replace HK:=zh (Kept.below (S:=(fun k_ => P0_ k_)) (by repeat (with_reducible first|exact HK.out|apply zr|apply zp|apply zq)) hb);have GE349:=zh ((by rw [hg];exact (zB (by repeat (with_reducible first|exact HB.out|apply za|apply zb|apply zc))) : w0.heap.size≤gb349));replace HB:=zh (zC (by repeat (with_reducible first|exact HB.out|apply za|apply zb|apply zc)) hb);clear hb hbox hg;have hcz32_0 : w31.cell? ⟨gb349,0,none⟩=some (.int .i64 a1_0):=(zz BK349.out 0).trans rfl;have hcz32_1 : w31.cell? ⟨gb349,1,none⟩=some (.int .i64 a1_1):=(zz BK349.out 1).trans rfl;have hcz32_2 : w31.cell? ⟨gb349,2,none⟩=some (.string a1_2):=(zz BK349.out 2).trans rfl;have hfz32_0:=zA BK349.out 0;have hfz32_1:=zA BK349.out 1;have hfz32_2:=zA BK349.out 2)|((with_reducible refine yB (b:=.append) (xs:=#[.tmp 13,.tmp 18]) rfl ?_);at_builtin;refine Kd.R_append (Kd.int .u8) (w0:=w0) w0.heap.size rfl (.tmp 13) (.tmp 18) 66 5 (.int .u8 0) 1 rfl Try.underlying66 info5 rfl (by decide) (by omega) u9000_ l0 ((wrap64 (a1_0 + 1)) % 256) [.int .u8 ((wrap64 (a1_0 + 1)) % 256)] (fun k_ => (P0_ k_∨w.heap.size≤k_)) (fun _ => False) rfl rfl ?aP (fun _ hk => hk.elim) ?aF ?aO ?aB ?aS ?aL ?_;(case aP => exact rfl);(case aB => exact (by repeat (with_reducible first|exact HB.out|apply za|apply zb|apply zc|refine zd ?_ GE349.out)));(case aF => exact (fun k_ hk => (.inr (Nat.le_trans (by first|exact HK.out.1|exact (show Kept w _ (fun k_ => P0_ k_) from by repeat (with_reducible first|exact HK.out|apply zr|apply zp|apply zq|refine zs ?_ (.inr GW349.out) _)).1) hk))));(case aO => exact (by (with_reducible repeat (first|apply zm|apply zn|apply zo));exact HO0.out));(case aS => exact (zB (by repeat (with_reducible first|exact HB.out|apply za|apply zb|apply zc|refine zd ?_ GE349.out))));(case aL => have:=LMc3.out;omega);intro v351 w33 ho hb hg hat;rw [← Ny350.out] at ho;replace BK349:=zh (yw (g:=gb349) (o:=.cells #[.int .i64 a1_0,.int .i64 a1_1,.string a1_2] 27 (0,0)) (by (with_reducible repeat (first|refine ze ?_ _|refine zf ?_|refine zg ?_ _));exact BK349.out) hg (Kd.R_ne HO0.out BK349.out (by decide)));replace HB:=zh (hb);replace HK:=zh (yA (S:=(fun k_ => P0_ k_)) hg (by repeat (with_reducible first|exact HK.out|apply zr|apply zp|apply zq|refine zs ?_ (.inr GW349.out) _)) (fun k_ e_ => (HO0.out.1 k_ e_)));have HO352:=zh (ho);clear HO0 ho hb hg hat;have hcz34_0 : w33.cell? ⟨gb349,0,none⟩=some (.int .i64 a1_0):=(zz BK349.out 0).trans rfl;have hcz34_1 : w33.cell? ⟨gb349,1,none⟩=some (.int .i64 a1_1):=(zz BK349.out 1).trans rfl;have hcz34_2 : w33.cell? ⟨gb349,2,none⟩=some (.string a1_2):=(zz BK349.out 2).trans rfl;have hfz34_0:=zA BK349.out 0;have hfz34_1:=zA BK349.out 1;have hfz34_2:=zA BK349.out 2)|((with_reducible refine zJ (f:=74) rfl ?_);refine yj (some 48) rfl rfl Try.func74 (by kernel_rfl) rfl #[.agg #[.int .i64 a1_0,.int .i64 a1_1,.string a1_2]] rfl (by (try simp only [zt,zu,zv]);first|done|rfl|(simp only [zw,zx];rfl)|(simp only [yr,ys,zV,zW];rfl)) ?_;(with_reducible refine (F8.calls k  a1_0 a1_1 a1_2 t365 t368 _ A30.out).mono ?_);rintro e w35 ⟨v366,rfl,ho0,hb⟩;refine ⟨_,rfl,?_⟩;replace HO352:=zh (yg (by (with_reducible repeat (first|apply zm|apply zn|apply zo));exact HO352.out) hb);have HO367:=zh (yy (Kd.R_newB (Kd.R_newM (M:=fun k_ => (P0_ k_∨w.heap.size≤k_)) ho0 (by first|exact HK.out.1|exact (show Kept w _ (fun k_ => P0_ k_) from by repeat (with_reducible first|exact HK.out|apply zr|apply zp|apply zq|refine zs ?_ (.inr GW349.out) _)).1) (fun k_ h_ => .inr h_)) (g:=gb349) (o:=.cells #[.int .i64 a1_0,.int .i64 a1_1,.string a1_2] 27 (0,0)) (by (with_reducible repeat (first|refine ze ?_ _|refine zf ?_|refine zg ?_ _));exact BK349.out)) (zB (by repeat (with_reducible first|exact HB.out|apply za|apply zb|apply zc|refine zd ?_ GE349.out))));replace BK349:=zh (zD (g:=gb349) (o:=.cells #[.int .i64 a1_0,.int .i64 a1_1,.string a1_2] 27 (0,0)) (by (with_reducible repeat (first|refine ze ?_ _|refine zf ?_|refine zg ?_ _));exact BK349.out) hb);replace HK:=zh (Kept.below (S:=(fun k_ => P0_ k_)) (by repeat (with_reducible first|exact HK.out|apply zr|apply zp|apply zq|refine zs ?_ (.inr GW349.out) _)) hb);replace HB:=zh (zC (by repeat (with_reducible first|exact HB.out|apply za|apply zb|apply zc|refine zd ?_ GE349.out)) hb);(try clear hb);(try clear hb2);(try clear hk);(try clear hi);(try clear ho0);obtain ⟨Ao36,co36,eo36⟩:=yk HO367.out;subst eo36))
   go_loopg [0,53] k (fun kq v0 v53 w' => ∃ (x0_1 : List Int) (x53_1 : Int),v53 = .int .i64 x53_1∧Aside0 (F3.l0 kq x0_1 t365 (t365.length : Int) x53_1=some r)∧Aside0 (kq≤k)∧Aside0 (Kd.R (Kd.int .u8) 5 w' w0.heap.size (fun k_ => (P0_ k_∨w.heap.size≤k_)) v0 x0_1)∧Aside0 (Kd.R k27 27 w' w0.heap.size (fun k_ => (P0_ k_∨w.heap.size≤k_)∧k_≠gb349) (.slice Ao36 t365.length co36) t365)∧Aside0 (w'.heap[gb349]? = some (.cells #[.int .i64 a1_0,.int .i64 a1_1,.string a1_2] 27 (0,0)))∧Aside0 (Kept w w' (fun k_ => P0_ k_))∧Aside0 (Below w0.heap.size w0 w'))
   case atStart => exact ⟨(y350),(0),(by first|rfl|(simp;done)|(simp [*];done)),H',⟨ye _⟩,⟨by (with_reducible repeat (first|apply zm|apply zn|apply zo));exact HO352.out⟩,⟨by (with_reducible repeat (first|apply zm|apply zn|apply zo));exact zM HO367.out (fun _ hk => ⟨hk.1.1,hk.2⟩)⟩,⟨by (with_reducible repeat (first|refine ze ?_ _|refine zf ?_|refine zg ?_ _));exact BK349.out⟩,⟨by repeat (with_reducible first|exact HK.out|apply zr|apply zp|apply zq|refine zs ?_ (.inr GW349.out) _)⟩,⟨by repeat (with_reducible first|exact HB.out|apply za|apply zb|apply zc|refine zd ?_ GE349.out)⟩⟩
   case round =>
    clear H'
    try clear c1
    try clear c2
    try clear p2
    try clear c3
    try clear c4
    try clear c4b0
    try clear c4b1
    try clear c5
    try clear p6
    try clear c7
    try clear c11
    try clear c11b0
    try clear c11b1
    try clear c13
    try clear c21
    try clear c21b0
    try clear c21b1
    try clear c29
    try clear c29b0
    try clear c29b1
    try clear hcz15_0
    try clear hcz15_1
    try clear hcz15_2
    try clear hcz17_0
    try clear hcz17_1
    try clear hcz17_2
    try clear hcz24_0
    try clear hcz24_1
    try clear hcz24_2
    try clear hcz26_0
    try clear hcz26_1
    try clear hcz26_2
    try clear hcz32_0
    try clear hcz32_1
    try clear hcz32_2
    try clear hcz34_0
    try clear hcz34_1
    try clear hcz34_2
    try clear hcz7_0
    try clear hcz7_1
    try clear hcz7_2
    try clear hcz9_0
    try clear hcz9_1
    try clear hcz9_2
    try clear hfz15_0
    try clear hfz15_1
    try clear hfz15_2
    try clear hfz17_0
    try clear hfz17_1
    try clear hfz17_2
    try clear hfz24_0
    try clear hfz24_1
    try clear hfz24_2
    try clear hfz26_0
    try clear hfz26_1
    try clear hfz26_2
    try clear hfz32_0
    try clear hfz32_1
    try clear hfz32_2
    try clear hfz34_0
    try clear hfz34_1
    try clear hfz34_2
    try clear hfz7_0
    try clear hfz7_1
    try clear hfz7_2
    try clear hfz9_0
    try clear hfz9_1
    try clear hfz9_2
    obtain ⟨x0_1,x53_1,rfl,HA,HK1,HO_0,HO_51,BK349,HK,HB⟩:=hrel
    cases gk with
    | zero => exact absurd HA.out (by simp [F3.l0])
    | succ k1 =>
     have H:=HA.out;clear HA;simp only [F3.l0] at H
     by_cases c37 : x53_1<(t365.length : Int)
     ·
      rw [if_pos c37] at H
      have c37b0 : decide (x53_1<(t365.length : Int))=true:=decide_eq_true c37;clear c37
      by_cases c38 : 0≤x53_1
      ·
       rw [if_pos c38] at H
       have c38b0 : decide (0≤x53_1)=true:=decide_eq_true c38;clear c38
       by_cases c39 : x53_1<(t365.length : Int)
       ·
        rw [if_pos c39] at H
        have c39b0 : decide (x53_1<(t365.length : Int))=true:=decide_eq_true c39;clear c39;replace H:=zT.mp H;obtain ⟨t371,A400,H⟩:=H;replace H : (F3.l0 k1 t371 t365 (t365.length : Int) (wrap64 (x53_1 + 1)))=some r:=H;have A40:=zh A400;clear A400;have H':=zh H;clear H;have p369 : 0≤(x53_1 : Int):=zy (by first|(with_reducible assumption)|assumption);have q369 : x53_1<(t365.length : Int):=zy (by first|(with_reducible assumption)|assumption);obtain ⟨ad369,e369,hx369_0,hx369_1,hx369_2⟩:=at_T27 (yh HO_51.out).2.2 x53_1 p369 q369
        cases e369
        replace p369:=eq_true p369;replace q369:=eq_true q369
        go_wp2_with (first|((with_reducible refine zK (N:=8) rfl ?_);refine zI ?hg (N:=8) ?hd (cs:=#[.int .i64 0,.int .i64 0,.string (⟨#[]⟩ : ByteArray)]) (t:=27) ?hr ?_;(case hd => rfl);(case hg => rfl);(case hr => first|(go_simp;done)|(go_simp;rfl));intro gb370 hg w41 hbox hb;replace HO_0:=zh (yg (by (with_reducible repeat (first|apply zm|apply zn|apply zo));exact HO_0.out) hb);replace HO_51:=zh (yg (Kd.R_elderB (by (with_reducible repeat (first|apply zm|apply zn|apply zo));exact HO_51.out) gb370 (Nat.le_of_eq hg.symm)) hb);have BK370:=zh (hbox);have GW370:=zh ((by rw [hg];exact (by first|exact HK.out.1|exact (show Kept w _ (fun k_ => P0_ k_) from by repeat (with_reducible first|exact HK.out|apply zr|apply zp|apply zq|refine zs ?_ (.inr GW349.out) _)).1) : w.heap.size≤gb370));replace HK:=zh (Kept.below (S:=(fun k_ => P0_ k_)) (by repeat (with_reducible first|exact HK.out|apply zr|apply zp|apply zq|refine zs ?_ (.inr GW349.out) _)) hb);have GE370:=zh ((by rw [hg];exact (zB (by repeat (with_reducible first|exact HB.out|apply za|apply zb|apply zc|refine zd ?_ GE349.out))) : w0.heap.size≤gb370));replace HB:=zh (zC (by repeat (with_reducible first|exact HB.out|apply za|apply zb|apply zc|refine zd ?_ GE349.out)) hb);have NB349_370:=zh ((by rw [hg];exact yc (yi (g:=gb349) (o:=.cells #[.int .i64 a1_0,.int .i64 a1_1,.string a1_2] 27 (0,0)) (by (with_reducible repeat (first|refine ze ?_ _|refine zf ?_|refine zg ?_ _));exact BK349.out)) : gb349≠gb370));have NB370_349:=zh ((by rw [hg];exact yd (yi (g:=gb349) (o:=.cells #[.int .i64 a1_0,.int .i64 a1_1,.string a1_2] 27 (0,0)) (by (with_reducible repeat (first|refine ze ?_ _|refine zf ?_|refine zg ?_ _));exact BK349.out)) : gb370≠gb349));replace BK349:=zh (zD (g:=gb349) (o:=.cells #[.int .i64 a1_0,.int .i64 a1_1,.string a1_2] 27 (0,0)) (by (with_reducible repeat (first|refine ze ?_ _|refine zf ?_|refine zg ?_ _));exact BK349.out) hb);clear hb hbox hg;have hnb42:=NB370_349.out;have hnc42:=NB349_370.out;have hcz43_0 : w41.cell? ⟨gb370,0,none⟩=some (.int .i64 0):=(zz BK370.out 0).trans rfl;have hcz43_1 : w41.cell? ⟨gb370,1,none⟩=some (.int .i64 0):=(zz BK370.out 1).trans rfl;have hcz43_2 : w41.cell? ⟨gb370,2,none⟩=some (.string (⟨#[]⟩ : ByteArray)):=(zz BK370.out 2).trans rfl;have hfz43_0:=zA BK370.out 0;have hfz43_1:=zA BK370.out 1;have hfz43_2:=zA BK370.out 2)|((with_reducible refine gate_store (t:=27) (p:=8) rfl ?_);refine store_event (t:=27) (p:=8) (v:=?vo_w44) (w1:=(((w41.setCell ⟨gb370,0,none⟩ (.int .i64 ((rd_T27 t365 x53_1).f0))).setCell ⟨gb370,1,none⟩ (.int .i64 ((rd_T27 t365 x53_1).f1))).setCell ⟨gb370,2,none⟩ (.string ((rd_T27 t365 x53_1).f2)))) ?hg ?ho ?hn ?hr ?_;(case ho => rfl);(case hg => rfl);(case hn => rfl);(case hr => first|(go_simp;done)|(go_simp;rfl));intro w44 hw;replace HO_0 : Aside0 (Kd.R (Kd.int .u8) 5 w44 w0.heap.size (fun k_ => (P0_ k_∨w.heap.size≤k_)) u0 x0_1):=⟨(by rw [hw];exact (by (with_reducible repeat (first|apply zm|apply zn|apply zo));exact zM (zE (p:=⟨gb370,2,none⟩) (zE (p:=⟨gb370,1,none⟩) (zE (p:=⟨gb370,0,none⟩) (yf HO_0.out BK370.out (by decide)) (fun _ hk => hk.2) (.int .i64 ((rd_T27 t365 x53_1).f0))) (fun _ hk => hk.2) (.int .i64 ((rd_T27 t365 x53_1).f1))) (fun _ hk => hk.2) (.string ((rd_T27 t365 x53_1).f2))) (fun _ hk => hk.1)))⟩;replace HO_51 : Aside0 (Kd.R k27 27 w44 w0.heap.size (fun k_ => (P0_ k_∨w.heap.size≤k_)∧k_≠gb349∧k_≠gb370) (.slice (some ad369) t365.length co36) t365):=⟨(by rw [hw];exact (by (with_reducible repeat (first|apply zm|apply zn|apply zo));exact zM (zE (p:=⟨gb370,2,none⟩) (zE (p:=⟨gb370,1,none⟩) (zE (p:=⟨gb370,0,none⟩) (zM HO_51.out (fun k_ hk => (⟨hk,hk.2⟩ : _∧k_≠gb370))) (fun _ hk => hk.2) (.int .i64 ((rd_T27 t365 x53_1).f0))) (fun _ hk => hk.2) (.int .i64 ((rd_T27 t365 x53_1).f1))) (fun _ hk => hk.2) (.string ((rd_T27 t365 x53_1).f2))) (fun _ hk => ⟨hk.1.1.1,⟨hk.1.1.2,hk.1.2⟩⟩)))⟩;replace BK349 : Aside0 (w44.heap[gb349]? = some (.cells #[.int .i64 a1_0,.int .i64 a1_1,.string a1_2] 27 (0,0))):=⟨(by rw [hw];exact (by (with_reducible repeat (first|refine ze ?_ _|refine zf ?_|refine zg ?_ _));refine zS ?_ NB349_370.out _;(with_reducible repeat (first|refine ze ?_ _|refine zf ?_|refine zg ?_ _));refine zS ?_ NB349_370.out _;(with_reducible repeat (first|refine ze ?_ _|refine zf ?_|refine zg ?_ _));refine zS ?_ NB349_370.out _;(with_reducible repeat (first|refine ze ?_ _|refine zf ?_|refine zg ?_ _));exact BK349.out))⟩;replace BK370 : Aside0 (w44.heap[gb370]? = some (.cells #[.int .i64 ((rd_T27 t365 x53_1).f0),.int .i64 ((rd_T27 t365 x53_1).f1),.string ((rd_T27 t365 x53_1).f2)] 27 (0,0))):=⟨(by rw [hw];exact (by (with_reducible repeat (first|refine ze ?_ _|refine zf ?_|refine zg ?_ _));refine zL (cs:=#[.int .i64 ((rd_T27 t365 x53_1).f0),.int .i64 ((rd_T27 t365 x53_1).f1),.string (⟨#[]⟩ : ByteArray)]) ?_ 2 _ rfl;(with_reducible repeat (first|refine ze ?_ _|refine zf ?_|refine zg ?_ _));refine zL (cs:=#[.int .i64 ((rd_T27 t365 x53_1).f0),.int .i64 0,.string (⟨#[]⟩ : ByteArray)]) ?_ 1 _ rfl;(with_reducible repeat (first|refine ze ?_ _|refine zf ?_|refine zg ?_ _));refine zL (cs:=#[.int .i64 0,.int .i64 0,.string (⟨#[]⟩ : ByteArray)]) ?_ 0 _ rfl;(with_reducible repeat (first|refine ze ?_ _|refine zf ?_|refine zg ?_ _));exact BK370.out))⟩;replace HK : Aside0 (Kept w w44 (fun k_ => P0_ k_)):=⟨(by rw [hw];exact (by repeat (with_reducible first|exact HK.out|apply zr|apply zp|apply zq|refine zs ?_ (.inr GW349.out) _|refine zs ?_ (.inr GW370.out) _)))⟩;replace HB : Aside0 (Below w0.heap.size w0 w44):=⟨(by rw [hw];exact (by repeat (with_reducible first|exact HB.out|apply za|apply zb|apply zc|refine zd ?_ GE349.out|refine zd ?_ GE370.out)))⟩;clear hw;have hcz45_0 : w44.cell? ⟨gb370,0,none⟩=some (.int .i64 ((rd_T27 t365 x53_1).f0)):=(zz BK370.out 0).trans rfl;have hcz45_1 : w44.cell? ⟨gb370,1,none⟩=some (.int .i64 ((rd_T27 t365 x53_1).f1)):=(zz BK370.out 1).trans rfl;have hcz45_2 : w44.cell? ⟨gb370,2,none⟩=some (.string ((rd_T27 t365 x53_1).f2)):=(zz BK370.out 2).trans rfl;have hfz45_0:=zA BK370.out 0;have hfz45_1:=zA BK370.out 1;have hfz45_2:=zA BK370.out 2;obtain ⟨Ao46,co46,eo46⟩:=yk HO_0.out;subst eo46)|((with_reducible refine zJ (f:=46) rfl ?_);refine yj (some 59) rfl rfl Try.func46 (by kernel_rfl) rfl #[.slice Ao46 x0_1.length co46,.agg #[.int .i64 ((rd_T27 t365 x53_1).f0),.int .i64 ((rd_T27 t365 x53_1).f1),.string ((rd_T27 t365 x53_1).f2)]] rfl (by (try simp only [zt,zu,zv]);first|done|rfl|(simp only [zw,zx];rfl)|(simp only [yr,ys,zV,zW];rfl)) ?_;(with_reducible refine (ih k1 (by have:=HK1.out;omega)  (fun k_ => some k_=(.slice Ao46 x0_1.length co46 : Value).ownBlock) (.slice Ao46 x0_1.length co46) x0_1 ((rd_T27 t365 x53_1).f0) ((rd_T27 t365 x53_1).f1) ((rd_T27 t365 x53_1).f2) t371 w0 _ ?side1 ?side2 A40.out).mono ?_);(case side1 => repeat (with_reducible first|exact HB.out|apply za|apply zb|apply zc|refine zd ?_ GE349.out|refine zd ?_ GE370.out));(case side2 => exact Kd.R_tight rfl HO_0.out);rintro e w47 ⟨v372,rfl,ho0,hb,hkp⟩;refine ⟨_,rfl,?_⟩;replace HO_51:=zh (zM (ok':=fun k_ => (P0_ k_∨w.heap.size≤k_)∧k_≠gb349∧k_≠gb370) (Kd.R_keptB ((Kd.R_apart' HO_51.out (Kd.R_typed HO_0.out) (by decide))) hkp (fun k_ hk_ hs_ => (hk_.2) hs_)) (fun k_ hk_ => ⟨hk_.1.1.1,hk_.1.1.2.1,hk_.1.1.2.2⟩));replace BK349:=zh (blk_kept (by (with_reducible repeat (first|refine ze ?_ _|refine zf ?_|refine zg ?_ _));exact BK349.out) hkp (fun hs_ => (fun e_ => (Kd.R_ne HO_0.out BK349.out (by decide)) e_) hs_));replace BK370:=zh (blk_kept (by (with_reducible repeat (first|refine ze ?_ _|refine zf ?_|refine zg ?_ _));exact BK370.out) hkp (fun hs_ => (fun e_ => (Kd.R_ne HO_0.out BK370.out (by decide)) e_) hs_));have HO373:=zh (zM (ok':=fun k_ => (P0_ k_∨w.heap.size≤k_)) ho0 (fun k_ hk_ => Or.elim hk_ (fun hs_ => (HO_0.out.1 k_ (hs_).symm)) (fun hn_ => (.inr (Nat.le_trans (by first|exact HK.out.1|exact (show Kept w _ (fun k_ => P0_ k_) from by repeat (with_reducible first|exact HK.out|apply zr|apply zp|apply zq|refine zs ?_ (.inr GW349.out) _|refine zs ?_ (.inr GW370.out) _)).1) hn_)))));replace HK:=zh (Kept.then_ (S:=(fun k_ => P0_ k_)) (by repeat (with_reducible first|exact HK.out|apply zr|apply zp|apply zq|refine zs ?_ (.inr GW349.out) _|refine zs ?_ (.inr GW370.out) _)) hkp (fun k_ hs_ => (fun e_ => (HO_0.out.1 k_ e_.symm)) hs_));replace HB:=zh (hb);clear HO_0;(try clear hb);(try clear hkp);(try clear ho0)))
        go_roundg k1
        case measure => have:=HK1.out;omega
        case rel => exact ⟨(t371),(wrap64 (x53_1 + 1)),(by first|rfl|(simp;done)|(simp [*];done)),H',⟨by have:=HK1.out;omega⟩,⟨by (with_reducible repeat (first|apply zm|apply zn|apply zo));exact HO373.out⟩,⟨by (with_reducible repeat (first|apply zm|apply zn|apply zo));exact zM HO_51.out (fun _ hk => ⟨hk.1,hk.2.1⟩)⟩,⟨by (with_reducible repeat (first|refine ze ?_ _|refine zf ?_|refine zg ?_ _));exact BK349.out⟩,⟨by repeat (with_reducible first|exact HK.out|apply zr|apply zp|apply zq|refine zs ?_ (.inr GW349.out) _|refine zs ?_ (.inr GW370.out) _)⟩,⟨by repeat (with_reducible first|exact HB.out|apply za|apply zb|apply zc|refine zd ?_ GE349.out|refine zd ?_ GE370.out)⟩⟩
       rw [if_neg c39] at H;exact absurd H (by simp)
      rw [if_neg c38] at H;exact absurd H (by simp)
     rw [if_neg c37] at H;have c37b0 : decide (x53_1<(t365.length : Int))=false:=decide_eq_false c37;clear c37
     by_cases c48 : x0_1.length<140737488355328
     ·
      rw [if_pos c48] at H
      have LMc48:=zh c48;clear c48;obtain ⟨y374,hy374⟩ : ∃ y_ : List Int,y_=(x0_1 ++ [0]):=⟨_,rfl⟩;replace H : (some y374)=some r:=by first|(rw [hy374];with_reducible exact H)|(have H2_:=(Option.bind_some _ _).symm.trans H;rw [hy374];with_reducible exact H2_)|(have H2_:=(Option.bind_some _ _).symm.trans H;with_reducible exact H2_)|with_reducible exact H|(rw [hy374];exact H)|exact H
      have Ny374:=zh hy374;clear hy374;obtain rfl:=zU H
      go_wp2_with (first|((with_reducible refine yB (b:=.append) (xs:=#[.tmp 61,.tmp 62]) rfl ?_);at_builtin;refine Kd.R_append (Kd.int .u8) (w0:=w0) w0.heap.size rfl (.tmp 61) (.tmp 62) 66 5 (.int .u8 0) 1 rfl Try.underlying66 info5 rfl (by decide) (by omega) u0 x0_1 0 [.int .u8 0] (fun k_ => (P0_ k_∨w.heap.size≤k_)) (fun _ => False) rfl rfl ?aP (fun _ hk => hk.elim) ?aF ?aO ?aB ?aS ?aL ?_;(case aP => exact rfl);(case aB => exact (by repeat (with_reducible first|exact HB.out|apply za|apply zb|apply zc|refine zd ?_ GE349.out)));(case aF => exact (fun k_ hk => (.inr (Nat.le_trans (by first|exact HK.out.1|exact (show Kept w _ (fun k_ => P0_ k_) from by repeat (with_reducible first|exact HK.out|apply zr|apply zp|apply zq|refine zs ?_ (.inr GW349.out) _)).1) hk))));(case aO => exact (by (with_reducible repeat (first|apply zm|apply zn|apply zo));exact HO_0.out));(case aS => exact (zB (by repeat (with_reducible first|exact HB.out|apply za|apply zb|apply zc|refine zd ?_ GE349.out))));(case aL => have:=LMc48.out;omega);intro v375 w49 ho hb hg hat;rw [← Ny374.out] at ho;replace HO_51:=zh (Kd.R_over' (by (with_reducible repeat (first|apply zm|apply zn|apply zo));exact HO_51.out) (Kd.R_typed (by (with_reducible repeat (first|apply zm|apply zn|apply zo));exact HO_0.out)) (by decide) hg);replace BK349:=zh (yw (g:=gb349) (o:=.cells #[.int .i64 a1_0,.int .i64 a1_1,.string a1_2] 27 (0,0)) (by (with_reducible repeat (first|refine ze ?_ _|refine zf ?_|refine zg ?_ _));exact BK349.out) hg (Kd.R_ne HO_0.out BK349.out (by decide)));replace HB:=zh (hb);replace HK:=zh (yA (S:=(fun k_ => P0_ k_)) hg (by repeat (with_reducible first|exact HK.out|apply zr|apply zp|apply zq|refine zs ?_ (.inr GW349.out) _)) (fun k_ e_ => (HO_0.out.1 k_ e_)));have HO376:=zh (ho);clear HO_0 ho hb hg hat))
      go_ret
      exact ⟨_,by first|rfl|(simp [yt,yu] <;> rfl)|(simp [*,yt,yu] <;> rfl),by (with_reducible repeat (first|apply zm|apply zn|apply zo));exact HO376.out,by repeat (with_reducible first|exact HB.out|apply za|apply zb|apply zc|refine zd ?_ GE349.out),by repeat (with_reducible first|exact HK.out|apply zr|apply zp|apply zq|refine zs ?_ (.inr GW349.out) _)⟩
     rw [if_neg c48] at H;exact absurd H (by simp)
  rw [if_neg c29] at H;have c29b0 : (a1_0 == 4)=false:=zY.mpr c29;have c29b1 : (a1_0 != 4)=true:=zZ.mpr c29
  by_cases c50 : a1_0=5
  ·
   rw [if_pos c50] at H
   have c50b0 : (a1_0 == 5)=true:=ya.mpr c50;have c50b1 : (a1_0 != 5)=false:=zX.mpr c50;clear c50;replace H:=zT.mp H;obtain ⟨⟨t377,t380⟩,A510,H⟩:=H;replace H : (F3.l1 k y350 t377 (t377.length : Int) 0)=some r:=H;have A51:=zh A510;clear A510;have H':=zh H;clear H
   go_enter Try.func46,Try.ntmps46
   go_wp2_with (first|((with_reducible refine zK (N:=3) rfl ?_);refine zI ?hg (N:=3) ?hd (cs:=#[.int .i64 a1_0,.int .i64 a1_1,.string a1_2]) (t:=27) ?hr ?_;(case hd => rfl);(case hg => rfl);(case hr => first|(go_simp;done)|(go_simp;rfl));intro gb349 hg w52 hbox hb;replace HO0:=zh (yg (by (with_reducible repeat (first|apply zm|apply zn|apply zo));exact HO0.out) hb);have BK349:=zh (hbox);have GW349:=zh ((by rw [hg];exact (by first|exact HK.out.1|exact (show Kept w _ (fun k_ => P0_ k_) from by repeat (with_reducible first|exact HK.out|apply zr|apply zp|apply zq)).1) : w.heap.size≤gb349));replace HK:=zh (Kept.below (S:=(fun k_ => P0_ k_)) (by repeat (with_reducible first|exact HK.out|apply zr|apply zp|apply zq)) hb);have GE349:=zh ((by rw [hg];exact (zB (by repeat (with_reducible first|exact HB.out|apply za|apply zb|apply zc))) : w0.heap.size≤gb349));replace HB:=zh (zC (by repeat (with_reducible first|exact HB.out|apply za|apply zb|apply zc)) hb);clear hb hbox hg;have hcz53_0 : w52.cell? ⟨gb349,0,none⟩=some (.int .i64 a1_0):=(zz BK349.out 0).trans rfl;have hcz53_1 : w52.cell? ⟨gb349,1,none⟩=some (.int .i64 a1_1):=(zz BK349.out 1).trans rfl;have hcz53_2 : w52.cell? ⟨gb349,2,none⟩=some (.string a1_2):=(zz BK349.out 2).trans rfl;have hfz53_0:=zA BK349.out 0;have hfz53_1:=zA BK349.out 1;have hfz53_2:=zA BK349.out 2)|((with_reducible refine yB (b:=.append) (xs:=#[.tmp 13,.tmp 18]) rfl ?_);at_builtin;refine Kd.R_append (Kd.int .u8) (w0:=w0) w0.heap.size rfl (.tmp 13) (.tmp 18) 66 5 (.int .u8 0) 1 rfl Try.underlying66 info5 rfl (by decide) (by omega) u9000_ l0 ((wrap64 (a1_0 + 1)) % 256) [.int .u8 ((wrap64 (a1_0 + 1)) % 256)] (fun k_ => (P0_ k_∨w.heap.size≤k_)) (fun _ => False) rfl rfl ?aP (fun _ hk => hk.elim) ?aF ?aO ?aB ?aS ?aL ?_;(case aP => exact rfl);(case aB => exact (by repeat (with_reducible first|exact HB.out|apply za|apply zb|apply zc|refine zd ?_ GE349.out)));(case aF => exact (fun k_ hk => (.inr (Nat.le_trans (by first|exact HK.out.1|exact (show Kept w _ (fun k_ => P0_ k_) from by repeat (with_reducible first|exact HK.out|apply zr|apply zp|apply zq|refine zs ?_ (.inr GW349.out) _)).1) hk))));(case aO => exact (by (with_reducible repeat (first|apply zm|apply zn|apply zo));exact HO0.out));(case aS => exact (zB (by repeat (with_reducible first|exact HB.out|apply za|apply zb|apply zc|refine zd ?_ GE349.out))));(case aL => have:=LMc3.out;omega);intro v351 w54 ho hb hg hat;rw [← Ny350.out] at ho;replace BK349:=zh (yw (g:=gb349) (o:=.cells #[.int .i64 a1_0,.int .i64 a1_1,.string a1_2] 27 (0,0)) (by (with_reducible repeat (first|refine ze ?_ _|refine zf ?_|refine zg ?_ _));exact BK349.out) hg (Kd.R_ne HO0.out BK349.out (by decide)));replace HB:=zh (hb);replace HK:=zh (yA (S:=(fun k_ => P0_ k_)) hg (by repeat (with_reducible first|exact HK.out|apply zr|apply zp|apply zq|refine zs ?_ (.inr GW349.out) _)) (fun k_ e_ => (HO0.out.1 k_ e_)));have HO352:=zh (ho);clear HO0 ho hb hg hat;have hcz55_0 : w54.cell? ⟨gb349,0,none⟩=some (.int .i64 a1_0):=(zz BK349.out 0).trans rfl;have hcz55_1 : w54.cell? ⟨gb349,1,none⟩=some (.int .i64 a1_1):=(zz BK349.out 1).trans rfl;have hcz55_2 : w54.cell? ⟨gb349,2,none⟩=some (.string a1_2):=(zz BK349.out 2).trans rfl;have hfz55_0:=zA BK349.out 0;have hfz55_1:=zA BK349.out 1;have hfz55_2:=zA BK349.out 2)|((with_reducible refine zJ (f:=51) rfl ?_);refine yj (some 68) rfl rfl Try.func51 (by kernel_rfl) rfl #[.agg #[.int .i64 a1_0,.int .i64 a1_1,.string a1_2]] rfl (by (try simp only [zt,zu,zv]);first|done|rfl|(simp only [zw,zx];rfl)|(simp only [yr,ys,zV,zW];rfl)) ?_;(with_reducible refine (F5.calls k  a1_0 a1_1 a1_2 t377 t380 _ A51.out).mono ?_);rintro e w56 ⟨v378,rfl,ho0,hb⟩;refine ⟨_,rfl,?_⟩;replace HO352:=zh (yg (by (with_reducible repeat (first|apply zm|apply zn|apply zo));exact HO352.out) hb);have HO379:=zh (yy (Kd.R_newM (M:=fun k_ => (P0_ k_∨w.heap.size≤k_)) ho0 (by first|exact HK.out.1|exact (show Kept w _ (fun k_ => P0_ k_) from by repeat (with_reducible first|exact HK.out|apply zr|apply zp|apply zq|refine zs ?_ (.inr GW349.out) _)).1) (fun k_ h_ => .inr h_)) (zB (by repeat (with_reducible first|exact HB.out|apply za|apply zb|apply zc|refine zd ?_ GE349.out))));replace BK349:=zh (zD (g:=gb349) (o:=.cells #[.int .i64 a1_0,.int .i64 a1_1,.string a1_2] 27 (0,0)) (by (with_reducible repeat (first|refine ze ?_ _|refine zf ?_|refine zg ?_ _));exact BK349.out) hb);replace HK:=zh (Kept.below (S:=(fun k_ => P0_ k_)) (by repeat (with_reducible first|exact HK.out|apply zr|apply zp|apply zq|refine zs ?_ (.inr GW349.out) _)) hb);replace HB:=zh (zC (by repeat (with_reducible first|exact HB.out|apply za|apply zb|apply zc|refine zd ?_ GE349.out)) hb);(try clear hb);(try clear hb2);(try clear hk);(try clear hi);(try clear ho0);obtain ⟨Ao57,co57,eo57⟩:=yk HO379.out;subst eo57))
   go_loopg [0,73] k (fun kq v0 v73 w' => ∃ (x0_1 : List Int) (x73_1 : Int),v73 = .int .i64 x73_1∧Aside0 (F3.l1 kq x0_1 t377 (t377.length : Int) x73_1=some r)∧Aside0 (kq≤k)∧Aside0 (Kd.R (Kd.int .u8) 5 w' w0.heap.size (fun k_ => (P0_ k_∨w.heap.size≤k_)) v0 x0_1)∧Aside0 (Kd.R k54 54 w' w0.heap.size (fun k_ => (P0_ k_∨w.heap.size≤k_)) (.slice Ao57 t377.length co57) t377)∧Aside0 (w'.heap[gb349]? = some (.cells #[.int .i64 a1_0,.int .i64 a1_1,.string a1_2] 27 (0,0)))∧Aside0 (Kept w w' (fun k_ => P0_ k_))∧Aside0 (Below w0.heap.size w0 w'))
   case atStart => exact ⟨(y350),(0),(by first|rfl|(simp;done)|(simp [*];done)),H',⟨ye _⟩,⟨by (with_reducible repeat (first|apply zm|apply zn|apply zo));exact HO352.out⟩,⟨by (with_reducible repeat (first|apply zm|apply zn|apply zo));exact zM HO379.out (fun _ hk => hk.1)⟩,⟨by (with_reducible repeat (first|refine ze ?_ _|refine zf ?_|refine zg ?_ _));exact BK349.out⟩,⟨by repeat (with_reducible first|exact HK.out|apply zr|apply zp|apply zq|refine zs ?_ (.inr GW349.out) _)⟩,⟨by repeat (with_reducible first|exact HB.out|apply za|apply zb|apply zc|refine zd ?_ GE349.out)⟩⟩
   case round =>
    clear H'
    try clear c1
    try clear c2
    try clear p2
    try clear c3
    try clear p3
    try clear q3
    try clear hx3
    try clear c4
    try clear c4b0
    try clear c4b1
    try clear c5
    try clear p6
    try clear c7
    try clear c11
    try clear c11b0
    try clear c11b1
    try clear c13
    try clear c21
    try clear c21b0
    try clear c21b1
    try clear c29
    try clear c29b0
    try clear c29b1
    try clear p36
    try clear q36
    try clear hx36
    try clear c37
    try clear c37b0
    try clear c38
    try clear c38b0
    try clear c39
    try clear c39b0
    try clear c42
    try clear c46
    try clear c48
    try clear c50
    try clear c50b0
    try clear c50b1
    try clear c51
    try clear hcz15_0
    try clear hcz15_1
    try clear hcz15_2
    try clear hcz17_0
    try clear hcz17_1
    try clear hcz17_2
    try clear hcz24_0
    try clear hcz24_1
    try clear hcz24_2
    try clear hcz26_0
    try clear hcz26_1
    try clear hcz26_2
    try clear hcz32_0
    try clear hcz32_1
    try clear hcz32_2
    try clear hcz34_0
    try clear hcz34_1
    try clear hcz34_2
    try clear hcz43_0
    try clear hcz43_1
    try clear hcz43_2
    try clear hcz45_0
    try clear hcz45_1
    try clear hcz45_2
    try clear hcz53_0
    try clear hcz53_1
    try clear hcz53_2
    try clear hcz55_0
    try clear hcz55_1
    try clear hcz55_2
    try clear hcz7_0
    try clear hcz7_1
    try clear hcz7_2
    try clear hcz9_0
    try clear hcz9_1
    try clear hcz9_2
    try clear hfz15_0
    try clear hfz15_1
    try clear hfz15_2
    try clear hfz17_0
    try clear hfz17_1
    try clear hfz17_2
    try clear hfz24_0
    try clear hfz24_1
    try clear hfz24_2
    try clear hfz26_0
    try clear hfz26_1
    try clear hfz26_2
    try clear hfz32_0
    try clear hfz32_1
    try clear hfz32_2
    try clear hfz34_0
    try clear hfz34_1
    try clear hfz34_2
    try clear hfz43_0
    try clear hfz43_1
    try clear hfz43_2
    try clear hfz45_0
    try clear hfz45_1
    try clear hfz45_2
    try clear hfz53_0
    try clear hfz53_1
    try clear hfz53_2
    try clear hfz55_0
    try clear hfz55_1
    try clear hfz55_2
    try clear hfz7_0
    try clear hfz7_1
    try clear hfz7_2
    try clear hfz9_0
    try clear hfz9_1
    try clear hfz9_2
    try clear hx369_0
    try clear hx369_1
    try clear hx369_2
    try clear p2
    try clear p369
    try clear p6
    try clear q369
    obtain ⟨x0_1,x73_1,rfl,HA,HK1,HO_0,HO_71,BK349,HK,HB⟩:=hrel
    cases gk with
    | zero => exact absurd HA.out (by simp [F3.l1])
    | succ k1 =>
     have H:=HA.out;clear HA;simp only [F3.l1] at H
     by_cases c58 : x73_1<(t377.length : Int)
     ·
      rw [if_pos c58] at H
      have c58b0 : decide (x73_1<(t377.length : Int))=true:=decide_eq_true c58;clear c58
      by_cases c59 : 0≤x73_1
      ·
       rw [if_pos c59] at H
       have c59b0 : decide (0≤x73_1)=true:=decide_eq_true c59;clear c59
       by_cases c60 : x73_1<(t377.length : Int)
       ·
        rw [if_pos c60] at H
        have c60b0 : decide (x73_1<(t377.length : Int))=true:=decide_eq_true c60;clear c60
        by_cases c61 : x0_1.length<140737488355328
        ·
         rw [if_pos c61] at H
         have LMc61:=zh c61;clear c61;obtain ⟨y383,hy383⟩ : ∃ y_ : List Int,y_=(x0_1 ++ [1]):=⟨_,rfl⟩;replace H : ((Fe.f k1 y383 ((rd_T54 t377 x73_1).f0)).bind fun t386 => ((F3.f k1 t386 ((rd_T54 t377 x73_1).f1.f0) ((rd_T54 t377 x73_1).f1.f1) ((rd_T54 t377 x73_1).f1.f2)).bind fun t389 => (F3.l1 k1 t389 t377 (t377.length : Int) (wrap64 (x73_1 + 1)))))=some r:=by first|(rw [hy383];with_reducible exact H)|(have H2_:=(Option.bind_some _ _).symm.trans H;rw [hy383];with_reducible exact H2_)|(have H2_:=(Option.bind_some _ _).symm.trans H;with_reducible exact H2_)|with_reducible exact H|(rw [hy383];exact H)|exact H
         have Ny383:=zh hy383;clear hy383;replace H:=zT.mp H;obtain ⟨t386,A620,H⟩:=H;replace H : ((F3.f k1 t386 ((rd_T54 t377 x73_1).f1.f0) ((rd_T54 t377 x73_1).f1.f1) ((rd_T54 t377 x73_1).f1.f2)).bind fun t389 => (F3.l1 k1 t389 t377 (t377.length : Int) (wrap64 (x73_1 + 1))))=some r:=H;have A62:=zh A620;clear A620;replace H:=zT.mp H;obtain ⟨t389,A630,H⟩:=H;replace H : (F3.l1 k1 t389 t377 (t377.length : Int) (wrap64 (x73_1 + 1)))=some r:=H;have A63:=zh A630;clear A630;have H':=zh H;clear H;have p381 : 0≤(x73_1 : Int):=zy (by first|(with_reducible assumption)|assumption);have q381 : x73_1<(t377.length : Int):=zy (by first|(with_reducible assumption)|assumption);obtain ⟨ad381,e381,hx381_0,hx381_1,hx381_2,hx381_3⟩:=at_T54 (yh HO_71.out).2.2 x73_1 p381 q381
         cases e381
         replace p381:=eq_true p381;replace q381:=eq_true q381
         try go_wp2_with (first|((with_reducible refine zK (N:=12) rfl ?_);refine zI ?hg (N:=12) ?hd (cs:=#[.string (⟨#[]⟩ : ByteArray),.int .i64 0,.int .i64 0,.string (⟨#[]⟩ : ByteArray)]) (t:=54) ?hr ?_;(case hd => rfl);(case hg => rfl);(case hr => first|(go_simp;done)|(go_simp;rfl));intro gb382 hg w64 hbox hb;replace HO_0:=zh (yg (by (with_reducible repeat (first|apply zm|apply zn|apply zo));exact HO_0.out) hb);replace HO_71:=zh (yg (Kd.R_elderB (by (with_reducible repeat (first|apply zm|apply zn|apply zo));exact HO_71.out) gb382 (Nat.le_of_eq hg.symm)) hb);have BK382:=zh (hbox);have GW382:=zh ((by rw [hg];exact (by first|exact HK.out.1|exact (show Kept w _ (fun k_ => P0_ k_) from by repeat (with_reducible first|exact HK.out|apply zr|apply zp|apply zq|refine zs ?_ (.inr GW349.out) _)).1) : w.heap.size≤gb382));replace HK:=zh (Kept.below (S:=(fun k_ => P0_ k_)) (by repeat (with_reducible first|exact HK.out|apply zr|apply zp|apply zq|refine zs ?_ (.inr GW349.out) _)) hb);have GE382:=zh ((by rw [hg];exact (zB (by repeat (with_reducible first|exact HB.out|apply za|apply zb|apply zc|refine zd ?_ GE349.out))) : w0.heap.size≤gb382));replace HB:=zh (zC (by repeat (with_reducible first|exact HB.out|apply za|apply zb|apply zc|refine zd ?_ GE349.out)) hb);have NB349_382:=zh ((by rw [hg];exact yc (yi (g:=gb349) (o:=.cells #[.int .i64 a1_0,.int .i64 a1_1,.string a1_2] 27 (0,0)) (by (with_reducible repeat (first|refine ze ?_ _|refine zf ?_|refine zg ?_ _));exact BK349.out)) : gb349≠gb382));have NB382_349:=zh ((by rw [hg];exact yd (yi (g:=gb349) (o:=.cells #[.int .i64 a1_0,.int .i64 a1_1,.string a1_2] 27 (0,0)) (by (with_reducible repeat (first|refine ze ?_ _|refine zf ?_|refine zg ?_ _));exact BK349.out)) : gb382≠gb349));replace BK349:=zh (zD (g:=gb349) (o:=.cells #[.int .i64 a1_0,.int .i64 a1_1,.string a1_2] 27 (0,0)) (by (with_reducible repeat (first|refine ze ?_ _|refine zf ?_|refine zg ?_ _));exact BK349.out) hb);clear hb hbox hg;have hnb65:=NB382_349.out;have hnc65:=NB349_382.out;have hcz66_0 : w64.cell? ⟨gb382,0,none⟩=some (.string (⟨#[]⟩ : ByteArray)):=(zz BK382.out 0).trans rfl;have hcz66_1 : w64.cell? ⟨gb382,1,none⟩=some (.int .i64 0):=(zz BK382.out 1).trans rfl;have hcz66_2 : w64.cell? ⟨gb382,2,none⟩=some (.int .i64 0):=(zz BK382.out 2).trans rfl;have hcz66_3 : w64.cell? ⟨gb382,3,none⟩=some (.string (⟨#[]⟩ : ByteArray)):=(zz BK382.out 3).trans rfl;have hfz66_0:=zA BK382.out 0;have hfz66_1:=zA BK382.out 1;have hfz66_2:=zA BK382.out 2;have hfz66_3:=zA BK382.out 3))
         have n0_ : Aside0 (Kd.R (Kd.int .u8) 5 ((((w64.setCell ⟨gb382,0,none⟩ (.string ((rd_T54 t377 x73_1).f0))).setCell ⟨gb382,1,none⟩ (.int .i64 ((rd_T54 t377 x73_1).f1.f0))).setCell ⟨gb382,2,none⟩ (.int .i64 ((rd_T54 t377 x73_1).f1.f1))).setCell ⟨gb382,3,none⟩ (.string ((rd_T54 t377 x73_1).f1.f2))) w0.heap.size (fun k_ => (P0_ k_∨w.heap.size≤k_)) u0 x0_1):=⟨by (with_reducible repeat (first|apply zm|apply zn|apply zo));exact zM (zE (p:=⟨gb382,3,none⟩) (zE (p:=⟨gb382,2,none⟩) (zE (p:=⟨gb382,1,none⟩) (zE (p:=⟨gb382,0,none⟩) (yf HO_0.out BK382.out (by decide)) (fun _ hk => hk.2) (.string ((rd_T54 t377 x73_1).f0))) (fun _ hk => hk.2) (.int .i64 ((rd_T54 t377 x73_1).f1.f0))) (fun _ hk => hk.2) (.int .i64 ((rd_T54 t377 x73_1).f1.f1))) (fun _ hk => hk.2) (.string ((rd_T54 t377 x73_1).f1.f2))) (fun _ hk => hk.1)⟩;have n1_ : Aside0 (Kd.R k54 54 ((((w64.setCell ⟨gb382,0,none⟩ (.string ((rd_T54 t377 x73_1).f0))).setCell ⟨gb382,1,none⟩ (.int .i64 ((rd_T54 t377 x73_1).f1.f0))).setCell ⟨gb382,2,none⟩ (.int .i64 ((rd_T54 t377 x73_1).f1.f1))).setCell ⟨gb382,3,none⟩ (.string ((rd_T54 t377 x73_1).f1.f2))) w0.heap.size (fun k_ => (P0_ k_∨w.heap.size≤k_)∧k_≠gb382) (.slice (some ad381) t377.length co57) t377):=⟨by (with_reducible repeat (first|apply zm|apply zn|apply zo));exact zM (zE (p:=⟨gb382,3,none⟩) (zE (p:=⟨gb382,2,none⟩) (zE (p:=⟨gb382,1,none⟩) (zE (p:=⟨gb382,0,none⟩) (zM HO_71.out (fun k_ hk => (⟨hk,hk.2⟩ : _∧k_≠gb382))) (fun _ hk => hk.2) (.string ((rd_T54 t377 x73_1).f0))) (fun _ hk => hk.2) (.int .i64 ((rd_T54 t377 x73_1).f1.f0))) (fun _ hk => hk.2) (.int .i64 ((rd_T54 t377 x73_1).f1.f1))) (fun _ hk => hk.2) (.string ((rd_T54 t377 x73_1).f1.f2))) (fun _ hk => ⟨hk.1.1,hk.1.2⟩)⟩;have n2_ : Aside0 (((((w64.setCell ⟨gb382,0,none⟩ (.string ((rd_T54 t377 x73_1).f0))).setCell ⟨gb382,1,none⟩ (.int .i64 ((rd_T54 t377 x73_1).f1.f0))).setCell ⟨gb382,2,none⟩ (.int .i64 ((rd_T54 t377 x73_1).f1.f1))).setCell ⟨gb382,3,none⟩ (.string ((rd_T54 t377 x73_1).f1.f2))).heap[gb349]? = some (.cells #[.int .i64 a1_0,.int .i64 a1_1,.string a1_2] 27 (0,0))):=⟨by (with_reducible repeat (first|refine ze ?_ _|refine zf ?_|refine zg ?_ _));refine zS ?_ NB349_382.out _;(with_reducible repeat (first|refine ze ?_ _|refine zf ?_|refine zg ?_ _));refine zS ?_ NB349_382.out _;(with_reducible repeat (first|refine ze ?_ _|refine zf ?_|refine zg ?_ _));refine zS ?_ NB349_382.out _;(with_reducible repeat (first|refine ze ?_ _|refine zf ?_|refine zg ?_ _));refine zS ?_ NB349_382.out _;(with_reducible repeat (first|refine ze ?_ _|refine zf ?_|refine zg ?_ _));exact BK349.out⟩;have n3_ : Aside0 (((((w64.setCell ⟨gb382,0,none⟩ (.string ((rd_T54 t377 x73_1).f0))).setCell ⟨gb382,1,none⟩ (.int .i64 ((rd_T54 t377 x73_1).f1.f0))).setCell ⟨gb382,2,none⟩ (.int .i64 ((rd_T54 t377 x73_1).f1.f1))).setCell ⟨gb382,3,none⟩ (.string ((rd_T54 t377 x73_1).f1.f2))).heap[gb382]? = some (.cells #[.string ((rd_T54 t377 x73_1).f0),.int .i64 ((rd_T54 t377 x73_1).f1.f0),.int .i64 ((rd_T54 t377 x73_1).f1.f1),.string ((rd_T54 t377 x73_1).f1.f2)] 54 (0,0))):=⟨by (with_reducible repeat (first|refine ze ?_ _|refine zf ?_|refine zg ?_ _));refine zL (cs:=#[.string ((rd_T54 t377 x73_1).f0),.int .i64 ((rd_T54 t377 x73_1).f1.f0),.int .i64 ((rd_T54 t377 x73_1).f1.f1),.string (⟨#[]⟩ : ByteArray)]) ?_ 3 _ rfl;(with_reducible repeat (first|refine ze ?_ _|refine zf ?_|refine zg ?_ _));refine zL (cs:=#[.string ((rd_T54 t377 x73_1).f0),.int .i64 ((rd_T54 t377 x73_1).f1.f0),.int .i64 0,.string (⟨#[]⟩ : ByteArray)]) ?_ 2 _ rfl;(with_reducible repeat (first|refine ze ?_ _|refine zf ?_|refine zg ?_ _));refine zL (cs:=#[.string ((rd_T54 t377 x73_1).f0),.int .i64 0,.int .i64 0,.string (⟨#[]⟩ : ByteArray)]) ?_ 1 _ rfl;(with_reducible repeat (first|refine ze ?_ _|refine zf ?_|refine zg ?_ _));refine zL (cs:=#[.string (⟨#[]⟩ : ByteArray),.int .i64 0,.int .i64 0,.string (⟨#[]⟩ : ByteArray)]) ?_ 0 _ rfl;(with_reducible repeat (first|refine ze ?_ _|refine zf ?_|refine zg ?_ _));exact BK382.out⟩;have n4_ : Aside0 (Kept w ((((w64.setCell ⟨gb382,0,none⟩ (.string ((rd_T54 t377 x73_1).f0))).setCell ⟨gb382,1,none⟩ (.int .i64 ((rd_T54 t377 x73_1).f1.f0))).setCell ⟨gb382,2,none⟩ (.int .i64 ((rd_T54 t377 x73_1).f1.f1))).setCell ⟨gb382,3,none⟩ (.string ((rd_T54 t377 x73_1).f1.f2))) (fun k_ => P0_ k_)):=⟨by repeat (with_reducible first|exact HK.out|apply zr|apply zp|apply zq|refine zs ?_ (.inr GW349.out) _|refine zs ?_ (.inr GW382.out) _)⟩;have n5_ : Aside0 (Below w0.heap.size w0 ((((w64.setCell ⟨gb382,0,none⟩ (.string ((rd_T54 t377 x73_1).f0))).setCell ⟨gb382,1,none⟩ (.int .i64 ((rd_T54 t377 x73_1).f1.f0))).setCell ⟨gb382,2,none⟩ (.int .i64 ((rd_T54 t377 x73_1).f1.f1))).setCell ⟨gb382,3,none⟩ (.string ((rd_T54 t377 x73_1).f1.f2)))):=⟨by repeat (with_reducible first|exact HB.out|apply za|apply zb|apply zc|refine zd ?_ GE349.out|refine zd ?_ GE382.out)⟩;(try clear HO_0);(try clear HO_71);(try clear BK349);(try clear BK382);(try clear HK);(try clear HB);generalize ((((w64.setCell ⟨gb382,0,none⟩ (.string ((rd_T54 t377 x73_1).f0))).setCell ⟨gb382,1,none⟩ (.int .i64 ((rd_T54 t377 x73_1).f1.f0))).setCell ⟨gb382,2,none⟩ (.int .i64 ((rd_T54 t377 x73_1).f1.f1))).setCell ⟨gb382,3,none⟩ (.string ((rd_T54 t377 x73_1).f1.f2)))=w67 at n0_ n1_ n2_ n3_ n4_ n5_ ⊢;have HO_0:=n0_;have HO_71:=n1_;have BK349:=n2_;have BK382:=n3_;have HK:=n4_;have HB:=n5_;clear n0_ n1_ n2_ n3_ n4_ n5_;replace HO_0:=zh (zo HO_0.out);replace HO_71:=zh (zo HO_71.out);replace BK349:=zh (zf BK349.out);replace BK382:=zh (zf BK382.out);replace HK:=zh (zq HK.out);replace HB:=zh (zc HB.out);refine start_ (n:=10) (S:=fun w' => w'.cell? ⟨gb382,0,none⟩=some (.string ((rd_T54 t377 x73_1).f0))∧w'.cell? ⟨gb382,1,none⟩=some (.int .i64 ((rd_T54 t377 x73_1).f1.f0))∧w'.cell? ⟨gb382,2,none⟩=some (.int .i64 ((rd_T54 t377 x73_1).f1.f1))∧w'.cell? ⟨gb382,3,none⟩=some (.string ((rd_T54 t377 x73_1).f1.f2))) (ds:=[]) (bm_ 0 10) (by kernel_rfl) rfl rfl ⟨(zz BK382.out 0).trans rfl,(zz BK382.out 1).trans rfl,(zz BK382.out 2).trans rfl,(zz BK382.out 3).trans rfl⟩ (fun hHeld => ?_);refine with_tabW F3.tab22 F3.bits22 (fun HT_ HW_ => ?_);generalize w67.drew=w68 at HO_0 HO_71 BK349 BK382 HK HB hHeld ⊢;refine pure_ (i:=0) (N:=some 77) (v:=?_) (a':=?_) (bm_ 1 10) rfl rfl (any_of HT_.out (by kernel_rfl)) (fun _ _ _ h => h) (Or.inl ⟨by rfl,?_⟩) ?_ ?_;rotate_left
         ·
          intro w'
          go_simp
          with_reducible rfl
         rotate_left
         ·
          simp only [Act.put,zi,zj,zk,zG,zH]
          rfl
         refine pure_ (i:=3) (N:=some 80) (v:=?_) (a':=?_) #[true,false,false,true,false,false,false,false,false,false] rfl rfl (any_of HT_.out (by kernel_rfl)) (fun _ _ _ h => h) (Or.inl ⟨by rfl,?_⟩) ?_ ?_;rotate_left
         ·
          intro w'
          go_simp
          with_reducible rfl
         rotate_left
         ·
          simp only [Act.put,zi,zj,zk,zG,zH]
          rfl
         refine pure_ (i:=6) (N:=some 83) (v:=?_) (a':=?_) #[true,false,false,true,false,false,true,false,false,false] rfl rfl (any_of HT_.out (by kernel_rfl)) (fun _ _ _ h => h) (Or.inl ⟨by rfl,?_⟩) ?_ ?_;rotate_left
         ·
          intro w'
          go_simp
          with_reducible rfl
         rotate_left
         ·
          simp only [Act.put,zi,zj,zk,zG,zH]
          rfl
         refine take_ (i:=4) (N:=some 81) (v:=?_) (a':=?_) #[true,false,false,true,true,false,true,false,false,false] rfl rfl (yo HT_.out HW_.out (by kernel_rfl)) (fun _ _ _ h => h) (Or.inl ⟨by rfl,?_⟩) hHeld ?_ ?_;rotate_left
         ·
          rintro w' ⟨s0,s1,s2,s3⟩
          go_simp
          with_reducible rfl
         rotate_left
         ·
          simp only [Act.put,zi,zj,zk,zG,zH]
          rfl
         refine take_ (i:=7) (N:=some 84) (v:=?_) (a':=?_) #[true,false,false,true,true,false,true,true,false,false] rfl rfl (yo HT_.out HW_.out (by kernel_rfl)) (fun _ _ _ h => h) (Or.inl ⟨by rfl,?_⟩) hHeld ?_ ?_;rotate_left
         ·
          rintro w' ⟨s0,s1,s2,s3⟩
          go_simp
          with_reducible rfl
         rotate_left
         ·
          simp only [Act.put,zi,zj,zk,zG,zH]
          rfl
         refine one_ (i:=1) (N:=some 78) #[true,true,false,true,true,false,true,true,false,false] rfl rfl (one_of HT_.out (by kernel_rfl)) (by decide) (fun K hK => ?_);refine value_ (w1:=?_) (v:=?_) (by rfl) rfl ?_ ?_;rotate_left 2
         ·
          go_simp
          constructor
          ·
           rfl
          rfl
         refine hK.out _ _ ⟨(zz (zg BK382.out _) 0).trans rfl,(zz (zg BK382.out _) 1).trans rfl,(zz (zg BK382.out _) 2).trans rfl,(zz (zg BK382.out _) 3).trans rfl⟩ (fun hHeld => ?_);clear hK K;refine norm_ (a':=?_) ?_ ?_;rotate_left
         ·
          show Act.put _ (some 78) _=_
          simp only [Act.put,zi,zj,zk,zG,zH]
          rfl
         refine one_ (i:=2) (N:=some 79) #[true,true,true,true,true,false,true,true,false,false] rfl rfl (one_of HT_.out (by kernel_rfl)) (by decide) (fun K hK => ?_);refine Kd.R_append_step (Kd.int .u8) (w0:=w0) w0.heap.size (by rfl) (.tmp 77) (.tmp 78) 66 5 (.int .u8 0) 1 rfl Try.underlying66 info5 rfl (by decide) (by omega) u0 x0_1 1 [.int .u8 1] (fun k_ => (P0_ k_∨w.heap.size≤k_)) (fun _ => False) rfl rfl ?aP (fun _ hk => hk.elim) ?aF ?aO ?aB ?aS ?aL ?_;(case aP => exact rfl)
         (case aB => exact (by repeat (with_reducible first|exact HB.out|apply za|apply zb|apply zc|refine zd ?_ GE349.out|refine zd ?_ GE382.out)))
         (case aF => exact (fun k_ hk => (.inr (Nat.le_trans (by first|exact HK.out.1|exact (show Kept w _ (fun k_ => P0_ k_) from by repeat (with_reducible first|exact HK.out|apply zr|apply zp|apply zq|refine zs ?_ (.inr GW349.out) _|refine zs ?_ (.inr GW382.out) _)).1) hk))))
         (case aO => exact (by (with_reducible repeat (first|apply zm|apply zn|apply zo));exact HO_0.out))
         (case aS => exact (zB (by repeat (with_reducible first|exact HB.out|apply za|apply zb|apply zc|refine zd ?_ GE349.out|refine zd ?_ GE382.out))))
         (case aL => have:=LMc61.out;omega)
         intro v384 w69 ho hb hg hat;rw [← Ny383.out] at ho;replace HO_71:=zh (Kd.R_over' (by (with_reducible repeat (first|apply zm|apply zn|apply zo));exact HO_71.out) (Kd.R_typed (by (with_reducible repeat (first|apply zm|apply zn|apply zo));exact HO_0.out)) (by decide) hg);replace BK349:=zh (yw (g:=gb349) (o:=.cells #[.int .i64 a1_0,.int .i64 a1_1,.string a1_2] 27 (0,0)) (by (with_reducible repeat (first|refine ze ?_ _|refine zf ?_|refine zg ?_ _));exact BK349.out) hg (Kd.R_ne HO_0.out BK349.out (by decide)));replace BK382:=zh (yw (g:=gb382) (o:=.cells #[.string ((rd_T54 t377 x73_1).f0),.int .i64 ((rd_T54 t377 x73_1).f1.f0),.int .i64 ((rd_T54 t377 x73_1).f1.f1),.string ((rd_T54 t377 x73_1).f1.f2)] 54 (0,0)) (by (with_reducible repeat (first|refine ze ?_ _|refine zf ?_|refine zg ?_ _));exact BK382.out) hg (Kd.R_ne HO_0.out BK382.out (by decide)));replace HB:=zh (hb);replace HK:=zh (yA (S:=(fun k_ => P0_ k_)) hg (by repeat (with_reducible first|exact HK.out|apply zr|apply zp|apply zq|refine zs ?_ (.inr GW349.out) _|refine zs ?_ (.inr GW382.out) _)) (fun k_ e_ => (HO_0.out.1 k_ e_)));have HO385:=zh (ho);clear HO_0 ho hb hg hat;obtain ⟨Ao70,co70,eo70⟩:=yk HO385.out;(first|subst eo70|(injection eo70 with f1_ f2_ f3_;have f4_:=f1_.symm;have f5_:=f3_.symm;clear f1_ f2_ f3_;subst f4_;subst f5_));refine hK.out _ _ ⟨(zz BK382.out 0).trans rfl,(zz BK382.out 1).trans rfl,(zz BK382.out 2).trans rfl,(zz BK382.out 3).trans rfl⟩ (fun hHeld => ?_);clear hK K;refine norm_ (a':=?_) ?_ ?_;rotate_left
         ·
          show Act.put _ (some 79) _=_
          simp only [Act.put,zi,zj,zk,zG,zH]
          rfl
         refine one_ (i:=5) (N:=some 82) (bm_ 8 10) rfl rfl (one_of HT_.out (by kernel_rfl)) (by decide) (fun K hK => ?_);refine goes_ Try.func73 (by kernel_rfl) rfl #[.slice Ao70 y383.length co70,.string ((rd_T54 t377 x73_1).f0)] (by rfl) rfl rfl (by (try simp only [zt,zu,zv]);first|done|rfl|(simp only [zw,zx];rfl)|(simp only [yr,ys,zV,zW];rfl)) ?_
         with_reducible refine (Fe.calls k1  (fun k_ => some k_=(.slice Ao70 y383.length co70 : Value).ownBlock) (.slice Ao70 y383.length co70) y383 ((rd_T54 t377 x73_1).f0) t386 w0 _ ?side1 ?side2 A62.out).mono ?_
         (case side1 => repeat (with_reducible first|exact HB.out|apply za|apply zb|apply zc|refine zd ?_ GE349.out|refine zd ?_ GE382.out))
         (case side2 => exact Kd.R_tight rfl HO385.out)
         rintro e w71 ⟨v387,rfl,ho0,hb,hkp⟩;refine ⟨_,rfl,?_⟩;replace HO_71:=zh (zM (ok':=fun k_ => (P0_ k_∨w.heap.size≤k_)∧k_≠gb382) (Kd.R_keptB ((Kd.R_apart' HO_71.out (Kd.R_typed HO385.out) (by decide))) hkp (fun k_ hk_ hs_ => (hk_.2) hs_)) (fun k_ hk_ => ⟨hk_.1.1.1,hk_.1.1.2⟩));replace BK349:=zh (blk_kept (by (with_reducible repeat (first|refine ze ?_ _|refine zf ?_|refine zg ?_ _));exact BK349.out) hkp (fun hs_ => (fun e_ => (Kd.R_ne HO385.out BK349.out (by decide)) e_) hs_));replace BK382:=zh (blk_kept (by (with_reducible repeat (first|refine ze ?_ _|refine zf ?_|refine zg ?_ _));exact BK382.out) hkp (fun hs_ => (fun e_ => (Kd.R_ne HO385.out BK382.out (by decide)) e_) hs_));have HO388:=zh (zM (ok':=fun k_ => (P0_ k_∨w.heap.size≤k_)) ho0 (fun k_ hk_ => Or.elim hk_ (fun hs_ => (HO385.out.1 k_ (hs_).symm)) (fun hn_ => (.inr (Nat.le_trans (by first|exact HK.out.1|exact (show Kept w _ (fun k_ => P0_ k_) from by repeat (with_reducible first|exact HK.out|apply zr|apply zp|apply zq|refine zs ?_ (.inr GW349.out) _|refine zs ?_ (.inr GW382.out) _)).1) hn_)))));replace HK:=zh (Kept.then_ (S:=(fun k_ => P0_ k_)) (by repeat (with_reducible first|exact HK.out|apply zr|apply zp|apply zq|refine zs ?_ (.inr GW349.out) _|refine zs ?_ (.inr GW382.out) _)) hkp (fun k_ hs_ => (fun e_ => (HO385.out.1 k_ e_.symm)) hs_));replace HB:=zh (hb);clear HO385;(try clear hb);(try clear hkp);(try clear ho0);obtain ⟨Ao72,co72,eo72⟩:=yk HO388.out;(first|subst eo72|(injection eo72 with f1_ f2_ f3_;have f4_:=f1_.symm;have f5_:=f3_.symm;clear f1_ f2_ f3_;subst f4_;subst f5_));refine hK.out _ _ ⟨(zz BK382.out 0).trans rfl,(zz BK382.out 1).trans rfl,(zz BK382.out 2).trans rfl,(zz BK382.out 3).trans rfl⟩ (fun hHeld => ?_);clear hK K;refine norm_ (a':=?_) ?_ ?_;rotate_left
         ·
          show Act.put _ (some 82) _=_
          simp only [Act.put,zi,zj,zk,zG,zH]
          rfl
         refine one_ (i:=8) (N:=some 85) (bm_ 9 10) rfl rfl (one_of HT_.out (by kernel_rfl)) (by decide) (fun K hK => ?_);refine goes_ Try.func46 (by kernel_rfl) rfl #[.slice Ao72 t386.length co72,.agg #[.int .i64 ((rd_T54 t377 x73_1).f1.f0),.int .i64 ((rd_T54 t377 x73_1).f1.f1),.string ((rd_T54 t377 x73_1).f1.f2)]] (by rfl) rfl rfl (by (try simp only [zt,zu,zv]);first|done|rfl|(simp only [zw,zx];rfl)|(simp only [yr,ys,zV,zW];rfl)) ?_
         with_reducible refine (ih k1 (by have:=HK1.out;omega)  (fun k_ => some k_=(.slice Ao72 t386.length co72 : Value).ownBlock) (.slice Ao72 t386.length co72) t386 ((rd_T54 t377 x73_1).f1.f0) ((rd_T54 t377 x73_1).f1.f1) ((rd_T54 t377 x73_1).f1.f2) t389 w0 _ ?side1 ?side2 A63.out).mono ?_
         (case side1 => repeat (with_reducible first|exact HB.out|apply za|apply zb|apply zc|refine zd ?_ GE349.out|refine zd ?_ GE382.out))
         (case side2 => exact Kd.R_tight rfl HO388.out)
         rintro e w73 ⟨v390,rfl,ho0,hb,hkp⟩;refine ⟨_,rfl,?_⟩;replace HO_71:=zh (zM (ok':=fun k_ => (P0_ k_∨w.heap.size≤k_)∧k_≠gb382) (Kd.R_keptB ((Kd.R_apart' HO_71.out (Kd.R_typed HO388.out) (by decide))) hkp (fun k_ hk_ hs_ => (hk_.2) hs_)) (fun k_ hk_ => ⟨hk_.1.1.1,hk_.1.1.2⟩));replace BK349:=zh (blk_kept (by (with_reducible repeat (first|refine ze ?_ _|refine zf ?_|refine zg ?_ _));exact BK349.out) hkp (fun hs_ => (fun e_ => (Kd.R_ne HO388.out BK349.out (by decide)) e_) hs_));replace BK382:=zh (blk_kept (by (with_reducible repeat (first|refine ze ?_ _|refine zf ?_|refine zg ?_ _));exact BK382.out) hkp (fun hs_ => (fun e_ => (Kd.R_ne HO388.out BK382.out (by decide)) e_) hs_));have HO391:=zh (zM (ok':=fun k_ => (P0_ k_∨w.heap.size≤k_)) ho0 (fun k_ hk_ => Or.elim hk_ (fun hs_ => (HO388.out.1 k_ (hs_).symm)) (fun hn_ => (.inr (Nat.le_trans (by first|exact HK.out.1|exact (show Kept w _ (fun k_ => P0_ k_) from by repeat (with_reducible first|exact HK.out|apply zr|apply zp|apply zq|refine zs ?_ (.inr GW349.out) _|refine zs ?_ (.inr GW382.out) _)).1) hn_)))));replace HK:=zh (Kept.then_ (S:=(fun k_ => P0_ k_)) (by repeat (with_reducible first|exact HK.out|apply zr|apply zp|apply zq|refine zs ?_ (.inr GW349.out) _|refine zs ?_ (.inr GW382.out) _)) hkp (fun k_ hs_ => (fun e_ => (HO388.out.1 k_ e_.symm)) hs_));replace HB:=zh (hb);clear HO388;(try clear hb);(try clear hkp);(try clear ho0);refine hK.out _ _ ⟨(zz BK382.out 0).trans rfl,(zz BK382.out 1).trans rfl,(zz BK382.out 2).trans rfl,(zz BK382.out 3).trans rfl⟩ (fun hHeld => ?_);clear hK K;refine norm_ (a':=?_) ?_ ?_;rotate_left
         ·
          show Act.put _ (some 85) _=_
          simp only [Act.put,zi,zj,zk,zG,zH]
          rfl
         refine pure_ (i:=9) (N:=some 0) (v:=?_) (a':=?_) (bm_ 10 10) rfl rfl (any_of HT_.out (by kernel_rfl)) (fun _ _ _ h => h) (Or.inl ⟨by rfl,?_⟩) ?_ ?_;rotate_left
         ·
          intro w'
          go_simp
          with_reducible rfl
         rotate_left
         ·
          simp only [Act.put,zi,zj,zk,zG,zH]
          rfl
         refine done_ (done_of HT_.out (by kernel_rfl)) ?_
         try go_wp2
         go_roundg k1
         case measure => have:=HK1.out;omega
         case rel => exact ⟨(t389),(wrap64 (x73_1 + 1)),(by first|rfl|(simp;done)|(simp [*];done)),H',⟨by have:=HK1.out;omega⟩,⟨by (with_reducible repeat (first|apply zm|apply zn|apply zo));exact HO391.out⟩,⟨by (with_reducible repeat (first|apply zm|apply zn|apply zo));exact zM HO_71.out (fun _ hk => hk.1)⟩,⟨by (with_reducible repeat (first|refine ze ?_ _|refine zf ?_|refine zg ?_ _));exact BK349.out⟩,⟨by repeat (with_reducible first|exact HK.out|apply zr|apply zp|apply zq|refine zs ?_ (.inr GW349.out) _|refine zs ?_ (.inr GW382.out) _)⟩,⟨by repeat (with_reducible first|exact HB.out|apply za|apply zb|apply zc|refine zd ?_ GE349.out|refine zd ?_ GE382.out)⟩⟩
        rw [if_neg c61] at H;exact absurd H (by simp)
       rw [if_neg c60] at H;exact absurd H (by simp)
      rw [if_neg c59] at H;exact absurd H (by simp)
     rw [if_neg c58] at H;have c58b0 : decide (x73_1<(t377.length : Int))=false:=decide_eq_false c58;clear c58
     by_cases c74 : x0_1.length<140737488355328
     ·
      rw [if_pos c74] at H
      have LMc74:=zh c74;clear c74;obtain ⟨y392,hy392⟩ : ∃ y_ : List Int,y_=(x0_1 ++ [0]):=⟨_,rfl⟩;replace H : (some y392)=some r:=by first|(rw [hy392];with_reducible exact H)|(have H2_:=(Option.bind_some _ _).symm.trans H;rw [hy392];with_reducible exact H2_)|(have H2_:=(Option.bind_some _ _).symm.trans H;with_reducible exact H2_)|with_reducible exact H|(rw [hy392];exact H)|exact H
      have Ny392:=zh hy392;clear hy392;obtain rfl:=zU H
      go_wp2_with (first|((with_reducible refine yB (b:=.append) (xs:=#[.tmp 87,.tmp 88]) rfl ?_);at_builtin;refine Kd.R_append (Kd.int .u8) (w0:=w0) w0.heap.size rfl (.tmp 87) (.tmp 88) 66 5 (.int .u8 0) 1 rfl Try.underlying66 info5 rfl (by decide) (by omega) u0 x0_1 0 [.int .u8 0] (fun k_ => (P0_ k_∨w.heap.size≤k_)) (fun _ => False) rfl rfl ?aP (fun _ hk => hk.elim) ?aF ?aO ?aB ?aS ?aL ?_;(case aP => exact rfl);(case aB => exact (by repeat (with_reducible first|exact HB.out|apply za|apply zb|apply zc|refine zd ?_ GE349.out)));(case aF => exact (fun k_ hk => (.inr (Nat.le_trans (by first|exact HK.out.1|exact (show Kept w _ (fun k_ => P0_ k_) from by repeat (with_reducible first|exact HK.out|apply zr|apply zp|apply zq|refine zs ?_ (.inr GW349.out) _)).1) hk))));(case aO => exact (by (with_reducible repeat (first|apply zm|apply zn|apply zo));exact HO_0.out));(case aS => exact (zB (by repeat (with_reducible first|exact HB.out|apply za|apply zb|apply zc|refine zd ?_ GE349.out))));(case aL => have:=LMc74.out;omega);intro v393 w75 ho hb hg hat;rw [← Ny392.out] at ho;replace HO_71:=zh (Kd.R_over' (by (with_reducible repeat (first|apply zm|apply zn|apply zo));exact HO_71.out) (Kd.R_typed (by (with_reducible repeat (first|apply zm|apply zn|apply zo));exact HO_0.out)) (by decide) hg);replace BK349:=zh (yw (g:=gb349) (o:=.cells #[.int .i64 a1_0,.int .i64 a1_1,.string a1_2] 27 (0,0)) (by (with_reducible repeat (first|refine ze ?_ _|refine zf ?_|refine zg ?_ _));exact BK349.out) hg (Kd.R_ne HO_0.out BK349.out (by decide)));replace HB:=zh (hb);replace HK:=zh (yA (S:=(fun k_ => P0_ k_)) hg (by repeat (with_reducible first|exact HK.out|apply zr|apply zp|apply zq|refine zs ?_ (.inr GW349.out) _)) (fun k_ e_ => (HO_0.out.1 k_ e_)));have HO394:=zh (ho);clear HO_0 ho hb hg hat))
      go_ret
      exact ⟨_,by first|rfl|(simp [yt,yu] <;> rfl)|(simp [*,yt,yu] <;> rfl),by (with_reducible repeat (first|apply zm|apply zn|apply zo));exact HO394.out,by repeat (with_reducible first|exact HB.out|apply za|apply zb|apply zc|refine zd ?_ GE349.out),by repeat (with_reducible first|exact HK.out|apply zr|apply zp|apply zq|refine zs ?_ (.inr GW349.out) _)⟩
     rw [if_neg c74] at H;exact absurd H (by simp)
  rw [if_neg c50] at H;have c50b0 : (a1_0 == 5)=false:=zY.mpr c50;have c50b1 : (a1_0 != 5)=true:=zZ.mpr c50;obtain rfl:=zU H
  go_enter Try.func46,Try.ntmps46
  go_wp2_with (first|((with_reducible refine zK (N:=3) rfl ?_);refine zI ?hg (N:=3) ?hd (cs:=#[.int .i64 a1_0,.int .i64 a1_1,.string a1_2]) (t:=27) ?hr ?_;(case hd => rfl);(case hg => rfl);(case hr => first|(go_simp;done)|(go_simp;rfl));intro gb349 hg w76 hbox hb;replace HO0:=zh (yg (by (with_reducible repeat (first|apply zm|apply zn|apply zo));exact HO0.out) hb);have BK349:=zh (hbox);have GW349:=zh ((by rw [hg];exact (by first|exact HK.out.1|exact (show Kept w _ (fun k_ => P0_ k_) from by repeat (with_reducible first|exact HK.out|apply zr|apply zp|apply zq)).1) : w.heap.size≤gb349));replace HK:=zh (Kept.below (S:=(fun k_ => P0_ k_)) (by repeat (with_reducible first|exact HK.out|apply zr|apply zp|apply zq)) hb);have GE349:=zh ((by rw [hg];exact (zB (by repeat (with_reducible first|exact HB.out|apply za|apply zb|apply zc))) : w0.heap.size≤gb349));replace HB:=zh (zC (by repeat (with_reducible first|exact HB.out|apply za|apply zb|apply zc)) hb);clear hb hbox hg;have hcz77_0 : w76.cell? ⟨gb349,0,none⟩=some (.int .i64 a1_0):=(zz BK349.out 0).trans rfl;have hcz77_1 : w76.cell? ⟨gb349,1,none⟩=some (.int .i64 a1_1):=(zz BK349.out 1).trans rfl;have hcz77_2 : w76.cell? ⟨gb349,2,none⟩=some (.string a1_2):=(zz BK349.out 2).trans rfl;have hfz77_0:=zA BK349.out 0;have hfz77_1:=zA BK349.out 1;have hfz77_2:=zA BK349.out 2)|((with_reducible refine yB (b:=.append) (xs:=#[.tmp 13,.tmp 18]) rfl ?_);at_builtin;refine Kd.R_append (Kd.int .u8) (w0:=w0) w0.heap.size rfl (.tmp 13) (.tmp 18) 66 5 (.int .u8 0) 1 rfl Try.underlying66 info5 rfl (by decide) (by omega) u9000_ l0 ((wrap64 (a1_0 + 1)) % 256) [.int .u8 ((wrap64 (a1_0 + 1)) % 256)] (fun k_ => (P0_ k_∨w.heap.size≤k_)) (fun _ => False) rfl rfl ?aP (fun _ hk => hk.elim) ?aF ?aO ?aB ?aS ?aL ?_;(case aP => exact rfl);(case aB => exact (by repeat (with_reducible first|exact HB.out|apply za|apply zb|apply zc|refine zd ?_ GE349.out)));(case aF => exact (fun k_ hk => (.inr (Nat.le_trans (by first|exact HK.out.1|exact (show Kept w _ (fun k_ => P0_ k_) from by repeat (with_reducible first|exact HK.out|apply zr|apply zp|apply zq|refine zs ?_ (.inr GW349.out) _)).1) hk))));(case aO => exact (by (with_reducible repeat (first|apply zm|apply zn|apply zo));exact HO0.out));(case aS => exact (zB (by repeat (with_reducible first|exact HB.out|apply za|apply zb|apply zc|refine zd ?_ GE349.out))));(case aL => have:=LMc3.out;omega);intro v351 w78 ho hb hg hat;rw [← Ny350.out] at ho;replace BK349:=zh (yw (g:=gb349) (o:=.cells #[.int .i64 a1_0,.int .i64 a1_1,.string a1_2] 27 (0,0)) (by (with_reducible repeat (first|refine ze ?_ _|refine zf ?_|refine zg ?_ _));exact BK349.out) hg (Kd.R_ne HO0.out BK349.out (by decide)));replace HB:=zh (hb);replace HK:=zh (yA (S:=(fun k_ => P0_ k_)) hg (by repeat (with_reducible first|exact HK.out|apply zr|apply zp|apply zq|refine zs ?_ (.inr GW349.out) _)) (fun k_ e_ => (HO0.out.1 k_ e_)));have HO352:=zh (ho);clear HO0 ho hb hg hat;have hcz79_0 : w78.cell? ⟨gb349,0,none⟩=some (.int .i64 a1_0):=(zz BK349.out 0).trans rfl;have hcz79_1 : w78.cell? ⟨gb349,1,none⟩=some (.int .i64 a1_1):=(zz BK349.out 1).trans rfl;have hcz79_2 : w78.cell? ⟨gb349,2,none⟩=some (.string a1_2):=(zz BK349.out 2).trans rfl;have hfz79_0:=zA BK349.out 0;have hfz79_1:=zA BK349.out 1;have hfz79_2:=zA BK349.out 2))
  go_ret
  exact ⟨_,by first|rfl|(simp [yt,yu] <;> rfl)|(simp [*,yt,yu] <;> rfl),by (with_reducible repeat (first|apply zm|apply zn|apply zo));exact HO352.out,by repeat (with_reducible first|exact HB.out|apply za|apply zb|apply zc|refine zd ?_ GE349.out),by repeat (with_reducible first|exact HK.out|apply zr|apply zp|apply zq|refine zs ?_ (.inr GW349.out) _)⟩
 rw [if_neg c3] at H;exact absurd H (by simp)

end Go.Proofs.Ytjaknpeeopkojaa.Q
end
section
namespace Go.Proofs.Ytjaknpeeopkojaa.Q
open Go.RowKit Go.Proofs.YtjaknpeeopkojaaW.PrintWords Go.Proofs.YtjaknpeeopkojaaW.PrintLast Go.Proofs.YtjaknpeeopkojaaW.PrintMore
attribute [local go_sem] max2_int min2_int max_two min_two max_three min_three max_four min_four max2_str min2_str str_geq str_gtr str_leq
set_option linter.unusedVariables false
set_option linter.unusedSimpArgs false

def Fu.f (k : Nat) (a0_0 : Int) (a0_1 : Int) (a0_2 : ByteArray) (a1 : Bool) : Option (ByteArray):=(F3.f k ([] : List Int) a0_0 a0_1 a0_2).bind fun t396 => ((Fn.f t396 a1).bind fun t399 => (some t399))
theorem Fu.mono : ∀ a0 a1 a2 a3 k,LeO (Fu.f k a0 a1 a2 a3) (Fu.f (k + 1) a0 a1 a2 a3):=by
 intro a0 a1 a2 a3 k;unfold Fu.f
 repeat' first|(with_reducible first|exact F3.mono _ _ _ _ _|exact zQ _|exact zN _|refine zP ?_ ?_|refine zO ?_ (fun _ => ?_))|refine zP ?_ ?_|refine zO ?_ (fun _ => ?_)
set_option maxHeartbeats 8000000 in
set_option maxRecDepth 100000 in
theorem Fu.calls (k : Nat) (a0_0 : Int) (a0_1 : Int) (a0_2 : ByteArray) (a1 : Bool) (r : ByteArray) (w : World) (h : Fu.f k a0_0 a0_1 a0_2 a1=some r) :
  Calls Try.prog 24 #[.agg #[.int .i64 a0_0,.int .i64 a0_1,.string a0_2],.bool a1] w fun e w' => e = .returned (.string r)∧Below w.heap.size w w':=by
 have hu27:=Try.underlying27;have HB:=zh (Below.refl w.heap.size w);have H : ((F3.f k ([] : List Int) a0_0 a0_1 a0_2).bind fun t396 => ((Fn.f t396 a1).bind fun t399 => (some t399)))=some r:=h;clear h;replace H:=zT.mp H;obtain ⟨t396,A30,H⟩:=H;replace H : ((Fn.f t396 a1).bind fun t399 => (some t399))=some r:=H;have A3:=zh A30;clear A30;replace H:=zT.mp H;obtain ⟨t399,A40,H⟩:=H;replace H : (some t399)=some r:=H;have A4:=zh A40;clear A40;obtain rfl:=zU H
 go_enter Try.func24,Try.ntmps24
 go_wp2_with (first|((with_reducible refine zK (N:=2) rfl ?_);refine zI ?hg (N:=2) ?hd (cs:=#[.int .i64 a0_0,.int .i64 a0_1,.string a0_2]) (t:=27) ?hr ?_;(case hd => rfl);(case hg => rfl);(case hr => first|(go_simp;done)|(go_simp;rfl));intro gb395 hg w5 hbox hb;have BK395:=zh (hbox);have GW395:=zh ((by rw [hg];exact (zB (by repeat (with_reducible first|exact HB.out|apply za|apply zb|apply zc))) : w.heap.size≤gb395));have GE395:=zh ((by rw [hg];exact (zB (by repeat (with_reducible first|exact HB.out|apply za|apply zb|apply zc))) : w.heap.size≤gb395));replace HB:=zh (zC (by repeat (with_reducible first|exact HB.out|apply za|apply zb|apply zc)) hb);clear hb hbox hg;have hcz6_0 : w5.cell? ⟨gb395,0,none⟩=some (.int .i64 a0_0):=(zz BK395.out 0).trans rfl;have hcz6_1 : w5.cell? ⟨gb395,1,none⟩=some (.int .i64 a0_1):=(zz BK395.out 1).trans rfl;have hcz6_2 : w5.cell? ⟨gb395,2,none⟩=some (.string a0_2):=(zz BK395.out 2).trans rfl;have hfz6_0:=zA BK395.out 0;have hfz6_1:=zA BK395.out 1;have hfz6_2:=zA BK395.out 2)|((with_reducible refine zJ (f:=46) rfl ?_);refine yj (some 6) rfl rfl Try.func46 (by kernel_rfl) rfl #[.slice none 0 0,.agg #[.int .i64 a0_0,.int .i64 a0_1,.string a0_2]] rfl (by (try simp only [zt,zu,zv]);first|done|rfl|(simp only [zw,zx];rfl)|(simp only [yr,ys,zV,zW];rfl)) ?_;(refine (F3.calls k  (fun k_ => some k_=(.slice none 0 0 : Value).ownBlock) (.slice none 0 0) ([] : List Int) a0_0 a0_1 a0_2 t396 w _ ?side1 ?side2 A3.out).mono ?_);(case side1 => repeat (with_reducible first|exact HB.out|apply za|apply zb|apply zc|refine zd ?_ GE395.out));(case side2 => exact Kd.R_nil _ _ _ _ _);rintro e w7 ⟨v397,rfl,ho0,hb,hkp⟩;refine ⟨_,rfl,?_⟩;replace BK395:=zh (blk_kept (by (with_reducible repeat (first|refine ze ?_ _|refine zf ?_|refine zg ?_ _));exact BK395.out) hkp (fun hs_ => (fun e_ => by simp [Value.ownBlock] at e_) hs_));have HO398:=zh (zM (ok':=fun k_ => True) ho0 (fun k_ hk_ => trivial));replace HB:=zh (hb);(try clear hb);(try clear hkp);(try clear ho0);obtain ⟨Ao8,co8,eo8⟩:=yk HO398.out;subst eo8)|((with_reducible refine zJ (f:=45) rfl ?_);refine yj (some 8) rfl rfl Try.func45 (by kernel_rfl) rfl #[.slice Ao8 t396.length co8,.bool a1] rfl (by (try simp only [zt,zu,zv]);first|done|rfl|(simp only [zw,zx];rfl)|(simp only [yr,ys,zV,zW];rfl)) ?_;(with_reducible refine (Fn.calls  (fun k_ => some k_=(.slice Ao8 t396.length co8 : Value).ownBlock) (.slice Ao8 t396.length co8) t396 a1 t399 w _ ?side1 ?side2 A4.out).mono ?_);(case side1 => repeat (with_reducible first|exact HB.out|apply za|apply zb|apply zc|refine zd ?_ GE395.out));(case side2 => exact Kd.R_tight rfl HO398.out);rintro e w9 ⟨rfl,hb,hkp⟩;refine ⟨_,rfl,?_⟩;replace BK395:=zh (blk_kept (by (with_reducible repeat (first|refine ze ?_ _|refine zf ?_|refine zg ?_ _));exact BK395.out) hkp (fun hs_ => (fun e_ => (Kd.R_ne HO398.out BK395.out (by decide)) e_) hs_));replace HB:=zh (hb);clear HO398;(try clear hb);(try clear hkp)))
 go_ret
 exact ⟨by first|rfl|(simp [yt,yu] <;> rfl)|(simp [*,yt,yu] <;> rfl),by repeat (with_reducible first|exact HB.out|apply za|apply zb|apply zc|refine zd ?_ GE395.out)⟩


def Fq.f (k : Nat) (a0_0 : Int) (a0_1 : Int) (a0_2 : ByteArray) (a1 : Bool) : Option (ByteArray×Int):=(Fw.f k a0_0 a0_1 a0_2).bind fun t401 => (if t401=true then ((Fu.f k a0_0 a0_1 a0_2 a1).bind fun t402 => (some (t402,0))) else (some ((⟨#[]⟩ : ByteArray),1)))
theorem Fq.mono : ∀ a0 a1 a2 a3 k,LeO (Fq.f k a0 a1 a2 a3) (Fq.f (k + 1) a0 a1 a2 a3):=by
 intro a0 a1 a2 a3 k;unfold Fq.f
 repeat' first|(with_reducible first|exact Fw.mono _ _ _ _|exact Fu.mono _ _ _ _ _|exact zQ _|exact zN _|refine zP ?_ ?_|refine zO ?_ (fun _ => ?_))|refine zP ?_ ?_|refine zO ?_ (fun _ => ?_)
set_option maxHeartbeats 8000000 in
set_option maxRecDepth 100000 in
theorem Fq.calls (k : Nat) (a0_0 : Int) (a0_1 : Int) (a0_2 : ByteArray) (a1 : Bool) (r1 : ByteArray) (r2 : Int) (w : World) (h : Fq.f k a0_0 a0_1 a0_2 a1=some (r1,r2)) :
  Calls Try.prog 9 #[.agg #[.int .i64 a0_0,.int .i64 a0_1,.string a0_2],.bool a1] w fun e w' => e = .returned (.tuple #[.string r1,.int .i64 r2])∧Below w.heap.size w w':=by
 have hu27:=Try.underlying27;have HB:=zh (Below.refl w.heap.size w);have H : ((Fw.f k a0_0 a0_1 a0_2).bind fun t401 => (if t401=true then ((Fu.f k a0_0 a0_1 a0_2 a1).bind fun t402 => (some (t402,0))) else (some ((⟨#[]⟩ : ByteArray),1))))=some (r1,r2):=h;clear h;replace H:=zT.mp H;obtain ⟨t401,A30,H⟩:=H;replace H : (if t401=true then ((Fu.f k a0_0 a0_1 a0_2 a1).bind fun t402 => (some (t402,0))) else (some ((⟨#[]⟩ : ByteArray),1)))=some (r1,r2):=H;have A3:=zh A30;clear A30
 by_cases c4 : t401=true
 ·
  subst c4
  have H1 : ((Fu.f k a0_0 a0_1 a0_2 a1).bind fun t402 => (some (t402,0)))=some (r1,r2):=by rw [if_pos rfl] at H;exact H
  clear H;have H:=H1;clear H1;replace H:=zT.mp H;obtain ⟨t402,A50,H⟩:=H;replace H : (some (t402,0))=some (r1,r2):=H;have A5:=zh A50;clear A50;simp only [Option.some.injEq,Prod.mk.injEq] at H;obtain ⟨rfl,rfl⟩:=H
  go_enter Try.func9,Try.ntmps9
  go_wp2_with (first|((with_reducible refine zK (N:=2) rfl ?_);refine zI ?hg (N:=2) ?hd (cs:=#[.int .i64 a0_0,.int .i64 a0_1,.string a0_2]) (t:=27) ?hr ?_;(case hd => rfl);(case hg => rfl);(case hr => first|(go_simp;done)|(go_simp;rfl));intro gb400 hg w6 hbox hb;have BK400:=zh (hbox);have GW400:=zh ((by rw [hg];exact (zB (by repeat (with_reducible first|exact HB.out|apply za|apply zb|apply zc))) : w.heap.size≤gb400));have GE400:=zh ((by rw [hg];exact (zB (by repeat (with_reducible first|exact HB.out|apply za|apply zb|apply zc))) : w.heap.size≤gb400));replace HB:=zh (zC (by repeat (with_reducible first|exact HB.out|apply za|apply zb|apply zc)) hb);clear hb hbox hg;have hcz7_0 : w6.cell? ⟨gb400,0,none⟩=some (.int .i64 a0_0):=(zz BK400.out 0).trans rfl;have hcz7_1 : w6.cell? ⟨gb400,1,none⟩=some (.int .i64 a0_1):=(zz BK400.out 1).trans rfl;have hcz7_2 : w6.cell? ⟨gb400,2,none⟩=some (.string a0_2):=(zz BK400.out 2).trans rfl;have hfz7_0:=zA BK400.out 0;have hfz7_1:=zA BK400.out 1;have hfz7_2:=zA BK400.out 2)|((with_reducible refine zJ (f:=23) rfl ?_);refine yj (some 7) rfl rfl Try.func23 (by kernel_rfl) rfl #[.agg #[.int .i64 a0_0,.int .i64 a0_1,.string a0_2]] rfl (by (try simp only [zt,zu,zv]);first|done|rfl|(simp only [zw,zx];rfl)|(simp only [yr,ys,zV,zW];rfl)) ?_;(with_reducible refine (Fw.calls k  a0_0 a0_1 a0_2 true _ A3.out).mono ?_);rintro e w8 ⟨rfl,hb⟩;refine ⟨_,rfl,?_⟩;replace BK400:=zh (zD (g:=gb400) (o:=.cells #[.int .i64 a0_0,.int .i64 a0_1,.string a0_2] 27 (0,0)) (by (with_reducible repeat (first|refine ze ?_ _|refine zf ?_|refine zg ?_ _));exact BK400.out) hb);replace HB:=zh (zC (by repeat (with_reducible first|exact HB.out|apply za|apply zb|apply zc|refine zd ?_ GE400.out)) hb);(try clear hb);(try clear hb2);(try clear hk);(try clear hi);have hcz9_0 : w8.cell? ⟨gb400,0,none⟩=some (.int .i64 a0_0):=(zz BK400.out 0).trans rfl;have hcz9_1 : w8.cell? ⟨gb400,1,none⟩=some (.int .i64 a0_1):=(zz BK400.out 1).trans rfl;have hcz9_2 : w8.cell? ⟨gb400,2,none⟩=some (.string a0_2):=(zz BK400.out 2).trans rfl;have hfz9_0:=zA BK400.out 0;have hfz9_1:=zA BK400.out 1;have hfz9_2:=zA BK400.out 2)|((with_reducible refine zJ (f:=24) rfl ?_);refine yj (some 11) rfl rfl Try.func24 (by kernel_rfl) rfl #[.agg #[.int .i64 a0_0,.int .i64 a0_1,.string a0_2],.bool a1] rfl (by (try simp only [zt,zu,zv]);first|done|rfl|(simp only [zw,zx];rfl)|(simp only [yr,ys,zV,zW];rfl)) ?_;(with_reducible refine (Fu.calls k  a0_0 a0_1 a0_2 a1 t402 _ A5.out).mono ?_);rintro e w10 ⟨rfl,hb⟩;refine ⟨_,rfl,?_⟩;replace BK400:=zh (zD (g:=gb400) (o:=.cells #[.int .i64 a0_0,.int .i64 a0_1,.string a0_2] 27 (0,0)) (by (with_reducible repeat (first|refine ze ?_ _|refine zf ?_|refine zg ?_ _));exact BK400.out) hb);replace HB:=zh (zC (by repeat (with_reducible first|exact HB.out|apply za|apply zb|apply zc|refine zd ?_ GE400.out)) hb);(try clear hb);(try clear hb2);(try clear hk);(try clear hi)))
  go_ret2
  exact ⟨by first|rfl|(simp [yt,yu] <;> rfl)|(simp [*,yt,yu] <;> rfl),by repeat (with_reducible first|exact HB.out|apply za|apply zb|apply zc|refine zd ?_ GE400.out)⟩
 replace c4:=yb.mpr c4;subst c4;have H1 : (some ((⟨#[]⟩ : ByteArray),1))=some (r1,r2):=by rw [if_neg (show ¬ (false=true) by decide)] at H;exact H
 clear H;have H:=H1;clear H1;simp only [Option.some.injEq,Prod.mk.injEq] at H;obtain ⟨rfl,rfl⟩:=H
 go_enter Try.func9,Try.ntmps9
 go_wp2_with (first|((with_reducible refine zK (N:=2) rfl ?_);refine zI ?hg (N:=2) ?hd (cs:=#[.int .i64 a0_0,.int .i64 a0_1,.string a0_2]) (t:=27) ?hr ?_;(case hd => rfl);(case hg => rfl);(case hr => first|(go_simp;done)|(go_simp;rfl));intro gb400 hg w11 hbox hb;have BK400:=zh (hbox);have GW400:=zh ((by rw [hg];exact (zB (by repeat (with_reducible first|exact HB.out|apply za|apply zb|apply zc))) : w.heap.size≤gb400));have GE400:=zh ((by rw [hg];exact (zB (by repeat (with_reducible first|exact HB.out|apply za|apply zb|apply zc))) : w.heap.size≤gb400));replace HB:=zh (zC (by repeat (with_reducible first|exact HB.out|apply za|apply zb|apply zc)) hb);clear hb hbox hg;have hcz12_0 : w11.cell? ⟨gb400,0,none⟩=some (.int .i64 a0_0):=(zz BK400.out 0).trans rfl;have hcz12_1 : w11.cell? ⟨gb400,1,none⟩=some (.int .i64 a0_1):=(zz BK400.out 1).trans rfl;have hcz12_2 : w11.cell? ⟨gb400,2,none⟩=some (.string a0_2):=(zz BK400.out 2).trans rfl;have hfz12_0:=zA BK400.out 0;have hfz12_1:=zA BK400.out 1;have hfz12_2:=zA BK400.out 2)|((with_reducible refine zJ (f:=23) rfl ?_);refine yj (some 7) rfl rfl Try.func23 (by kernel_rfl) rfl #[.agg #[.int .i64 a0_0,.int .i64 a0_1,.string a0_2]] rfl (by (try simp only [zt,zu,zv]);first|done|rfl|(simp only [zw,zx];rfl)|(simp only [yr,ys,zV,zW];rfl)) ?_;(with_reducible refine (Fw.calls k  a0_0 a0_1 a0_2 false _ A3.out).mono ?_);rintro e w13 ⟨rfl,hb⟩;refine ⟨_,rfl,?_⟩;replace BK400:=zh (zD (g:=gb400) (o:=.cells #[.int .i64 a0_0,.int .i64 a0_1,.string a0_2] 27 (0,0)) (by (with_reducible repeat (first|refine ze ?_ _|refine zf ?_|refine zg ?_ _));exact BK400.out) hb);replace HB:=zh (zC (by repeat (with_reducible first|exact HB.out|apply za|apply zb|apply zc|refine zd ?_ GE400.out)) hb);(try clear hb);(try clear hb2);(try clear hk);(try clear hi)))
 go_ret2
 exact ⟨by first|rfl|(simp [yt,yu] <;> rfl)|(simp [*,yt,yu] <;> rfl),by repeat (with_reducible first|exact HB.out|apply za|apply zb|apply zc|refine zd ?_ GE400.out)⟩


def F00.f (k : Nat) (a0_0 : Int) (a0_1 : Int) (a0_2 : ByteArray) (a1 : Bool) : Option (Bool):=(F05.f a0_0 a0_1 a0_2 1048576).bind fun t404 => (if t404<0 then (some true) else ((Fs.f a0_0 a0_1 a0_2).bind fun bt405 => ((Ft.f k bt405.1 bt405.2.1 bt405.2.2 a1).bind fun bt408 => ((Fs.f a0_0 a0_1 a0_2).bind fun bt410 => ((Fq.f k bt410.1 bt410.2.1 bt410.2.2 a1).bind fun bt413 => (if bt413.1.toList=bt408.1.toList then (if bt413.2=bt408.2 then (some true) else (some false)) else (some false)))))))
theorem F00.mono : ∀ a0 a1 a2 a3 k,LeO (F00.f k a0 a1 a2 a3) (F00.f (k + 1) a0 a1 a2 a3):=by
 intro a0 a1 a2 a3 k;unfold F00.f
 repeat' first|(with_reducible first|exact Ft.mono _ _ _ _ _|exact Fq.mono _ _ _ _ _|exact zQ _|exact zN _|refine zP ?_ ?_|refine zO ?_ (fun _ => ?_))|refine zP ?_ ?_|refine zO ?_ (fun _ => ?_)
set_option maxHeartbeats 8000000 in
set_option maxRecDepth 100000 in
theorem F00.calls (k : Nat) (a0_0 : Int) (a0_1 : Int) (a0_2 : ByteArray) (a1 : Bool) (r : Bool) (w : World) (h : F00.f k a0_0 a0_1 a0_2 a1=some r) :
  Calls Try.prog 3 #[.agg #[.int .i64 a0_0,.int .i64 a0_1,.string a0_2],.bool a1] w fun e w' => e = .returned (.bool r)∧Below w.heap.size w w':=by
 have hu23:=Try.underlying23;have HB:=zh (Below.refl w.heap.size w);have H : ((F05.f a0_0 a0_1 a0_2 1048576).bind fun t404 => (if t404<0 then (some true) else ((Fs.f a0_0 a0_1 a0_2).bind fun bt405 => ((Ft.f k bt405.1 bt405.2.1 bt405.2.2 a1).bind fun bt408 => ((Fs.f a0_0 a0_1 a0_2).bind fun bt410 => ((Fq.f k bt410.1 bt410.2.1 bt410.2.2 a1).bind fun bt413 => (if bt413.1.toList=bt408.1.toList then (if bt413.2=bt408.2 then (some true) else (some false)) else (some false))))))))=some r:=h;clear h;replace H:=zT.mp H;obtain ⟨t404,A30,H⟩:=H;replace H : (if t404<0 then (some true) else ((Fs.f a0_0 a0_1 a0_2).bind fun bt405 => ((Ft.f k bt405.1 bt405.2.1 bt405.2.2 a1).bind fun bt408 => ((Fs.f a0_0 a0_1 a0_2).bind fun bt410 => ((Fq.f k bt410.1 bt410.2.1 bt410.2.2 a1).bind fun bt413 => (if bt413.1.toList=bt408.1.toList then (if bt413.2=bt408.2 then (some true) else (some false)) else (some false)))))))=some r:=H;have A3:=zh A30;clear A30
 by_cases c4 : t404<0
 ·
  rw [if_pos c4] at H
  have c4b0 : decide (t404<0)=true:=decide_eq_true c4;clear c4;obtain rfl:=zU H
  go_enter Try.func3,Try.ntmps3
  go_wp2_with (first|((with_reducible refine zK (N:=2) rfl ?_);refine zI ?hg (N:=2) ?hd (cs:=#[.int .i64 a0_0,.int .i64 a0_1,.string a0_2]) (t:=23) ?hr ?_;(case hd => rfl);(case hg => rfl);(case hr => first|(go_simp;done)|(go_simp;rfl));intro gb403 hg w5 hbox hb;have BK403:=zh (hbox);have GW403:=zh ((by rw [hg];exact (zB (by repeat (with_reducible first|exact HB.out|apply za|apply zb|apply zc))) : w.heap.size≤gb403));have GE403:=zh ((by rw [hg];exact (zB (by repeat (with_reducible first|exact HB.out|apply za|apply zb|apply zc))) : w.heap.size≤gb403));replace HB:=zh (zC (by repeat (with_reducible first|exact HB.out|apply za|apply zb|apply zc)) hb);clear hb hbox hg;have hcz6_0 : w5.cell? ⟨gb403,0,none⟩=some (.int .i64 a0_0):=(zz BK403.out 0).trans rfl;have hcz6_1 : w5.cell? ⟨gb403,1,none⟩=some (.int .i64 a0_1):=(zz BK403.out 1).trans rfl;have hcz6_2 : w5.cell? ⟨gb403,2,none⟩=some (.string a0_2):=(zz BK403.out 2).trans rfl;have hfz6_0:=zA BK403.out 0;have hfz6_1:=zA BK403.out 1;have hfz6_2:=zA BK403.out 2)|((with_reducible refine zJ (f:=6) rfl ?_);refine yj (some 12) rfl rfl Try.func6 (by kernel_rfl) rfl #[.agg #[.int .i64 a0_0,.int .i64 a0_1,.string a0_2],.int .i64 1048576] rfl (by (try simp only [zt,zu,zv]);first|done|rfl|(simp only [zw,zx];rfl)|(simp only [yr,ys,zV,zW];rfl)) ?_;(with_reducible refine (F05.calls  a0_0 a0_1 a0_2 1048576 t404 _ A3.out).mono ?_);rintro e w7 ⟨rfl,hb⟩;refine ⟨_,rfl,?_⟩;replace BK403:=zh (zD (g:=gb403) (o:=.cells #[.int .i64 a0_0,.int .i64 a0_1,.string a0_2] 23 (0,0)) (by (with_reducible repeat (first|refine ze ?_ _|refine zf ?_|refine zg ?_ _));exact BK403.out) hb);replace HB:=zh (zC (by repeat (with_reducible first|exact HB.out|apply za|apply zb|apply zc|refine zd ?_ GE403.out)) hb);(try clear hb);(try clear hb2);(try clear hk);(try clear hi)))
  go_ret
  exact ⟨by first|rfl|(simp [yt,yu] <;> rfl)|(simp [*,yt,yu] <;> rfl),by repeat (with_reducible first|exact HB.out|apply za|apply zb|apply zc|refine zd ?_ GE403.out)⟩
 rw [if_neg c4] at H;have c4b0 : decide (t404<0)=false:=decide_eq_false c4;clear c4;replace H:=zT.mp H;obtain ⟨⟨t405,t406,t407⟩,A80,H⟩:=H;replace H : ((Ft.f k t405 t406 t407 a1).bind fun bt408 => ((Fs.f a0_0 a0_1 a0_2).bind fun bt410 => ((Fq.f k bt410.1 bt410.2.1 bt410.2.2 a1).bind fun bt413 => (if bt413.1.toList=bt408.1.toList then (if bt413.2=bt408.2 then (some true) else (some false)) else (some false)))))=some r:=H;have A8:=zh A80;clear A80;replace H:=zT.mp H;obtain ⟨⟨t408,t409⟩,A90,H⟩:=H;replace H : ((Fs.f a0_0 a0_1 a0_2).bind fun bt410 => ((Fq.f k bt410.1 bt410.2.1 bt410.2.2 a1).bind fun bt413 => (if bt413.1.toList=t408.toList then (if bt413.2=t409 then (some true) else (some false)) else (some false))))=some r:=H;have A9:=zh A90;clear A90;replace H:=zT.mp H;obtain ⟨⟨t410,t411,t412⟩,A100,H⟩:=H;replace H : ((Fq.f k t410 t411 t412 a1).bind fun bt413 => (if bt413.1.toList=t408.toList then (if bt413.2=t409 then (some true) else (some false)) else (some false)))=some r:=H;have A10:=zh A100;clear A100;replace H:=zT.mp H;obtain ⟨⟨t413,t414⟩,A110,H⟩:=H;replace H : (if t413.toList=t408.toList then (if t414=t409 then (some true) else (some false)) else (some false))=some r:=H;have A11:=zh A110;clear A110
 by_cases c12 : t413.toList=t408.toList
 ·
  rw [if_pos c12] at H
  have c12b0 : (t413.toList == t408.toList)=true:=ya.mpr c12;have c12b1 : (t413.toList != t408.toList)=false:=zX.mpr c12;clear c12
  by_cases c13 : t414=t409
  ·
   rw [if_pos c13] at H
   have c13b0 : (t414 == t409)=true:=ya.mpr c13;have c13b1 : (t414 != t409)=false:=zX.mpr c13;clear c13;obtain rfl:=zU H
   go_enter Try.func3,Try.ntmps3
   go_wp2_with (first|((with_reducible refine zK (N:=2) rfl ?_);refine zI ?hg (N:=2) ?hd (cs:=#[.int .i64 a0_0,.int .i64 a0_1,.string a0_2]) (t:=23) ?hr ?_;(case hd => rfl);(case hg => rfl);(case hr => first|(go_simp;done)|(go_simp;rfl));intro gb403 hg w14 hbox hb;have BK403:=zh (hbox);have GW403:=zh ((by rw [hg];exact (zB (by repeat (with_reducible first|exact HB.out|apply za|apply zb|apply zc))) : w.heap.size≤gb403));have GE403:=zh ((by rw [hg];exact (zB (by repeat (with_reducible first|exact HB.out|apply za|apply zb|apply zc))) : w.heap.size≤gb403));replace HB:=zh (zC (by repeat (with_reducible first|exact HB.out|apply za|apply zb|apply zc)) hb);clear hb hbox hg;have hcz15_0 : w14.cell? ⟨gb403,0,none⟩=some (.int .i64 a0_0):=(zz BK403.out 0).trans rfl;have hcz15_1 : w14.cell? ⟨gb403,1,none⟩=some (.int .i64 a0_1):=(zz BK403.out 1).trans rfl;have hcz15_2 : w14.cell? ⟨gb403,2,none⟩=some (.string a0_2):=(zz BK403.out 2).trans rfl;have hfz15_0:=zA BK403.out 0;have hfz15_1:=zA BK403.out 1;have hfz15_2:=zA BK403.out 2)|((with_reducible refine zJ (f:=6) rfl ?_);refine yj (some 12) rfl rfl Try.func6 (by kernel_rfl) rfl #[.agg #[.int .i64 a0_0,.int .i64 a0_1,.string a0_2],.int .i64 1048576] rfl (by (try simp only [zt,zu,zv]);first|done|rfl|(simp only [zw,zx];rfl)|(simp only [yr,ys,zV,zW];rfl)) ?_;(with_reducible refine (F05.calls  a0_0 a0_1 a0_2 1048576 t404 _ A3.out).mono ?_);rintro e w16 ⟨rfl,hb⟩;refine ⟨_,rfl,?_⟩;replace BK403:=zh (zD (g:=gb403) (o:=.cells #[.int .i64 a0_0,.int .i64 a0_1,.string a0_2] 23 (0,0)) (by (with_reducible repeat (first|refine ze ?_ _|refine zf ?_|refine zg ?_ _));exact BK403.out) hb);replace HB:=zh (zC (by repeat (with_reducible first|exact HB.out|apply za|apply zb|apply zc|refine zd ?_ GE403.out)) hb);(try clear hb);(try clear hb2);(try clear hk);(try clear hi);have hcz17_0 : w16.cell? ⟨gb403,0,none⟩=some (.int .i64 a0_0):=(zz BK403.out 0).trans rfl;have hcz17_1 : w16.cell? ⟨gb403,1,none⟩=some (.int .i64 a0_1):=(zz BK403.out 1).trans rfl;have hcz17_2 : w16.cell? ⟨gb403,2,none⟩=some (.string a0_2):=(zz BK403.out 2).trans rfl;have hfz17_0:=zA BK403.out 0;have hfz17_1:=zA BK403.out 1;have hfz17_2:=zA BK403.out 2)|((with_reducible refine zJ (f:=8) rfl ?_);refine yj (some 17) rfl rfl Try.func8 (by kernel_rfl) rfl #[.agg #[.int .i64 a0_0,.int .i64 a0_1,.string a0_2]] rfl (by (try simp only [zt,zu,zv]);first|done|rfl|(simp only [zw,zx];rfl)|(simp only [yr,ys,zV,zW];rfl)) ?_;(with_reducible refine (Fs.calls  a0_0 a0_1 a0_2 t405 t406 t407 _ A8.out).mono ?_);rintro e w18 ⟨rfl,hb⟩;refine ⟨_,rfl,?_⟩;replace BK403:=zh (zD (g:=gb403) (o:=.cells #[.int .i64 a0_0,.int .i64 a0_1,.string a0_2] 23 (0,0)) (by (with_reducible repeat (first|refine ze ?_ _|refine zf ?_|refine zg ?_ _));exact BK403.out) hb);replace HB:=zh (zC (by repeat (with_reducible first|exact HB.out|apply za|apply zb|apply zc|refine zd ?_ GE403.out)) hb);(try clear hb);(try clear hb2);(try clear hk);(try clear hi))|((with_reducible refine zJ (f:=7) rfl ?_);refine yj (some 19) rfl rfl Try.func7 (by kernel_rfl) rfl #[.agg #[.int .i64 t405,.int .i64 t406,.string t407],.bool a1] rfl (by (try simp only [zt,zu,zv]);first|done|rfl|(simp only [zw,zx];rfl)|(simp only [yr,ys,zV,zW];rfl)) ?_;(with_reducible refine (Ft.calls k  t405 t406 t407 a1 t408 t409 _ A9.out).mono ?_);rintro e w19 ⟨rfl,hb⟩;refine ⟨_,rfl,?_⟩;replace BK403:=zh (zD (g:=gb403) (o:=.cells #[.int .i64 a0_0,.int .i64 a0_1,.string a0_2] 23 (0,0)) (by (with_reducible repeat (first|refine ze ?_ _|refine zf ?_|refine zg ?_ _));exact BK403.out) hb);replace HB:=zh (zC (by repeat (with_reducible first|exact HB.out|apply za|apply zb|apply zc|refine zd ?_ GE403.out)) hb);(try clear hb);(try clear hb2);(try clear hk);(try clear hi);have hcz20_0 : w19.cell? ⟨gb403,0,none⟩=some (.int .i64 a0_0):=(zz BK403.out 0).trans rfl;have hcz20_1 : w19.cell? ⟨gb403,1,none⟩=some (.int .i64 a0_1):=(zz BK403.out 1).trans rfl;have hcz20_2 : w19.cell? ⟨gb403,2,none⟩=some (.string a0_2):=(zz BK403.out 2).trans rfl;have hfz20_0:=zA BK403.out 0;have hfz20_1:=zA BK403.out 1;have hfz20_2:=zA BK403.out 2)|((with_reducible refine zJ (f:=8) rfl ?_);refine yj (some 24) rfl rfl Try.func8 (by kernel_rfl) rfl #[.agg #[.int .i64 a0_0,.int .i64 a0_1,.string a0_2]] rfl (by (try simp only [zt,zu,zv]);first|done|rfl|(simp only [zw,zx];rfl)|(simp only [yr,ys,zV,zW];rfl)) ?_;(with_reducible refine (Fs.calls  a0_0 a0_1 a0_2 t410 t411 t412 _ A10.out).mono ?_);rintro e w21 ⟨rfl,hb⟩;refine ⟨_,rfl,?_⟩;replace BK403:=zh (zD (g:=gb403) (o:=.cells #[.int .i64 a0_0,.int .i64 a0_1,.string a0_2] 23 (0,0)) (by (with_reducible repeat (first|refine ze ?_ _|refine zf ?_|refine zg ?_ _));exact BK403.out) hb);replace HB:=zh (zC (by repeat (with_reducible first|exact HB.out|apply za|apply zb|apply zc|refine zd ?_ GE403.out)) hb);(try clear hb);(try clear hb2);(try clear hk);(try clear hi))|((with_reducible refine zJ (f:=9) rfl ?_);refine yj (some 26) rfl rfl Try.func9 (by kernel_rfl) rfl #[.agg #[.int .i64 t410,.int .i64 t411,.string t412],.bool a1] rfl (by (try simp only [zt,zu,zv]);first|done|rfl|(simp only [zw,zx];rfl)|(simp only [yr,ys,zV,zW];rfl)) ?_;(with_reducible refine (Fq.calls k  t410 t411 t412 a1 t413 t414 _ A11.out).mono ?_);rintro e w22 ⟨rfl,hb⟩;refine ⟨_,rfl,?_⟩;replace BK403:=zh (zD (g:=gb403) (o:=.cells #[.int .i64 a0_0,.int .i64 a0_1,.string a0_2] 23 (0,0)) (by (with_reducible repeat (first|refine ze ?_ _|refine zf ?_|refine zg ?_ _));exact BK403.out) hb);replace HB:=zh (zC (by repeat (with_reducible first|exact HB.out|apply za|apply zb|apply zc|refine zd ?_ GE403.out)) hb);(try clear hb);(try clear hb2);(try clear hk);(try clear hi)))
   go_ret
   exact ⟨by first|rfl|(simp [yt,yu] <;> rfl)|(simp [*,yt,yu] <;> rfl),by repeat (with_reducible first|exact HB.out|apply za|apply zb|apply zc|refine zd ?_ GE403.out)⟩
  rw [if_neg c13] at H;have c13b0 : (t414 == t409)=false:=zY.mpr c13;have c13b1 : (t414 != t409)=true:=zZ.mpr c13;obtain rfl:=zU H
  go_enter Try.func3,Try.ntmps3
  go_wp2_with (first|((with_reducible refine zK (N:=2) rfl ?_);refine zI ?hg (N:=2) ?hd (cs:=#[.int .i64 a0_0,.int .i64 a0_1,.string a0_2]) (t:=23) ?hr ?_;(case hd => rfl);(case hg => rfl);(case hr => first|(go_simp;done)|(go_simp;rfl));intro gb403 hg w23 hbox hb;have BK403:=zh (hbox);have GW403:=zh ((by rw [hg];exact (zB (by repeat (with_reducible first|exact HB.out|apply za|apply zb|apply zc))) : w.heap.size≤gb403));have GE403:=zh ((by rw [hg];exact (zB (by repeat (with_reducible first|exact HB.out|apply za|apply zb|apply zc))) : w.heap.size≤gb403));replace HB:=zh (zC (by repeat (with_reducible first|exact HB.out|apply za|apply zb|apply zc)) hb);clear hb hbox hg;have hcz24_0 : w23.cell? ⟨gb403,0,none⟩=some (.int .i64 a0_0):=(zz BK403.out 0).trans rfl;have hcz24_1 : w23.cell? ⟨gb403,1,none⟩=some (.int .i64 a0_1):=(zz BK403.out 1).trans rfl;have hcz24_2 : w23.cell? ⟨gb403,2,none⟩=some (.string a0_2):=(zz BK403.out 2).trans rfl;have hfz24_0:=zA BK403.out 0;have hfz24_1:=zA BK403.out 1;have hfz24_2:=zA BK403.out 2)|((with_reducible refine zJ (f:=6) rfl ?_);refine yj (some 12) rfl rfl Try.func6 (by kernel_rfl) rfl #[.agg #[.int .i64 a0_0,.int .i64 a0_1,.string a0_2],.int .i64 1048576] rfl (by (try simp only [zt,zu,zv]);first|done|rfl|(simp only [zw,zx];rfl)|(simp only [yr,ys,zV,zW];rfl)) ?_;(with_reducible refine (F05.calls  a0_0 a0_1 a0_2 1048576 t404 _ A3.out).mono ?_);rintro e w25 ⟨rfl,hb⟩;refine ⟨_,rfl,?_⟩;replace BK403:=zh (zD (g:=gb403) (o:=.cells #[.int .i64 a0_0,.int .i64 a0_1,.string a0_2] 23 (0,0)) (by (with_reducible repeat (first|refine ze ?_ _|refine zf ?_|refine zg ?_ _));exact BK403.out) hb);replace HB:=zh (zC (by repeat (with_reducible first|exact HB.out|apply za|apply zb|apply zc|refine zd ?_ GE403.out)) hb);(try clear hb);(try clear hb2);(try clear hk);(try clear hi);have hcz26_0 : w25.cell? ⟨gb403,0,none⟩=some (.int .i64 a0_0):=(zz BK403.out 0).trans rfl;have hcz26_1 : w25.cell? ⟨gb403,1,none⟩=some (.int .i64 a0_1):=(zz BK403.out 1).trans rfl;have hcz26_2 : w25.cell? ⟨gb403,2,none⟩=some (.string a0_2):=(zz BK403.out 2).trans rfl;have hfz26_0:=zA BK403.out 0;have hfz26_1:=zA BK403.out 1;have hfz26_2:=zA BK403.out 2)|((with_reducible refine zJ (f:=8) rfl ?_);refine yj (some 17) rfl rfl Try.func8 (by kernel_rfl) rfl #[.agg #[.int .i64 a0_0,.int .i64 a0_1,.string a0_2]] rfl (by (try simp only [zt,zu,zv]);first|done|rfl|(simp only [zw,zx];rfl)|(simp only [yr,ys,zV,zW];rfl)) ?_;(with_reducible refine (Fs.calls  a0_0 a0_1 a0_2 t405 t406 t407 _ A8.out).mono ?_);rintro e w27 ⟨rfl,hb⟩;refine ⟨_,rfl,?_⟩;replace BK403:=zh (zD (g:=gb403) (o:=.cells #[.int .i64 a0_0,.int .i64 a0_1,.string a0_2] 23 (0,0)) (by (with_reducible repeat (first|refine ze ?_ _|refine zf ?_|refine zg ?_ _));exact BK403.out) hb);replace HB:=zh (zC (by repeat (with_reducible first|exact HB.out|apply za|apply zb|apply zc|refine zd ?_ GE403.out)) hb);(try clear hb);(try clear hb2);(try clear hk);(try clear hi))|((with_reducible refine zJ (f:=7) rfl ?_);refine yj (some 19) rfl rfl Try.func7 (by kernel_rfl) rfl #[.agg #[.int .i64 t405,.int .i64 t406,.string t407],.bool a1] rfl (by (try simp only [zt,zu,zv]);first|done|rfl|(simp only [zw,zx];rfl)|(simp only [yr,ys,zV,zW];rfl)) ?_;(with_reducible refine (Ft.calls k  t405 t406 t407 a1 t408 t409 _ A9.out).mono ?_);rintro e w28 ⟨rfl,hb⟩;refine ⟨_,rfl,?_⟩;replace BK403:=zh (zD (g:=gb403) (o:=.cells #[.int .i64 a0_0,.int .i64 a0_1,.string a0_2] 23 (0,0)) (by (with_reducible repeat (first|refine ze ?_ _|refine zf ?_|refine zg ?_ _));exact BK403.out) hb);replace HB:=zh (zC (by repeat (with_reducible first|exact HB.out|apply za|apply zb|apply zc|refine zd ?_ GE403.out)) hb);(try clear hb);(try clear hb2);(try clear hk);(try clear hi);have hcz29_0 : w28.cell? ⟨gb403,0,none⟩=some (.int .i64 a0_0):=(zz BK403.out 0).trans rfl;have hcz29_1 : w28.cell? ⟨gb403,1,none⟩=some (.int .i64 a0_1):=(zz BK403.out 1).trans rfl;have hcz29_2 : w28.cell? ⟨gb403,2,none⟩=some (.string a0_2):=(zz BK403.out 2).trans rfl;have hfz29_0:=zA BK403.out 0;have hfz29_1:=zA BK403.out 1;have hfz29_2:=zA BK403.out 2)|((with_reducible refine zJ (f:=8) rfl ?_);refine yj (some 24) rfl rfl Try.func8 (by kernel_rfl) rfl #[.agg #[.int .i64 a0_0,.int .i64 a0_1,.string a0_2]] rfl (by (try simp only [zt,zu,zv]);first|done|rfl|(simp only [zw,zx];rfl)|(simp only [yr,ys,zV,zW];rfl)) ?_;(with_reducible refine (Fs.calls  a0_0 a0_1 a0_2 t410 t411 t412 _ A10.out).mono ?_);rintro e w30 ⟨rfl,hb⟩;refine ⟨_,rfl,?_⟩;replace BK403:=zh (zD (g:=gb403) (o:=.cells #[.int .i64 a0_0,.int .i64 a0_1,.string a0_2] 23 (0,0)) (by (with_reducible repeat (first|refine ze ?_ _|refine zf ?_|refine zg ?_ _));exact BK403.out) hb);replace HB:=zh (zC (by repeat (with_reducible first|exact HB.out|apply za|apply zb|apply zc|refine zd ?_ GE403.out)) hb);(try clear hb);(try clear hb2);(try clear hk);(try clear hi))|((with_reducible refine zJ (f:=9) rfl ?_);refine yj (some 26) rfl rfl Try.func9 (by kernel_rfl) rfl #[.agg #[.int .i64 t410,.int .i64 t411,.string t412],.bool a1] rfl (by (try simp only [zt,zu,zv]);first|done|rfl|(simp only [zw,zx];rfl)|(simp only [yr,ys,zV,zW];rfl)) ?_;(with_reducible refine (Fq.calls k  t410 t411 t412 a1 t413 t414 _ A11.out).mono ?_);rintro e w31 ⟨rfl,hb⟩;refine ⟨_,rfl,?_⟩;replace BK403:=zh (zD (g:=gb403) (o:=.cells #[.int .i64 a0_0,.int .i64 a0_1,.string a0_2] 23 (0,0)) (by (with_reducible repeat (first|refine ze ?_ _|refine zf ?_|refine zg ?_ _));exact BK403.out) hb);replace HB:=zh (zC (by repeat (with_reducible first|exact HB.out|apply za|apply zb|apply zc|refine zd ?_ GE403.out)) hb);(try clear hb);(try clear hb2);(try clear hk);(try clear hi)))
  go_ret
  exact ⟨by first|rfl|(simp [yt,yu] <;> rfl)|(simp [*,yt,yu] <;> rfl),by repeat (with_reducible first|exact HB.out|apply za|apply zb|apply zc|refine zd ?_ GE403.out)⟩
 rw [if_neg c12] at H;have c12b0 : (t413.toList == t408.toList)=false:=zY.mpr c12;have c12b1 : (t413.toList != t408.toList)=true:=zZ.mpr c12;obtain rfl:=zU H
 go_enter Try.func3,Try.ntmps3
 go_wp2_with (first|((with_reducible refine zK (N:=2) rfl ?_);refine zI ?hg (N:=2) ?hd (cs:=#[.int .i64 a0_0,.int .i64 a0_1,.string a0_2]) (t:=23) ?hr ?_;(case hd => rfl);(case hg => rfl);(case hr => first|(go_simp;done)|(go_simp;rfl));intro gb403 hg w32 hbox hb;have BK403:=zh (hbox);have GW403:=zh ((by rw [hg];exact (zB (by repeat (with_reducible first|exact HB.out|apply za|apply zb|apply zc))) : w.heap.size≤gb403));have GE403:=zh ((by rw [hg];exact (zB (by repeat (with_reducible first|exact HB.out|apply za|apply zb|apply zc))) : w.heap.size≤gb403));replace HB:=zh (zC (by repeat (with_reducible first|exact HB.out|apply za|apply zb|apply zc)) hb);clear hb hbox hg;have hcz33_0 : w32.cell? ⟨gb403,0,none⟩=some (.int .i64 a0_0):=(zz BK403.out 0).trans rfl;have hcz33_1 : w32.cell? ⟨gb403,1,none⟩=some (.int .i64 a0_1):=(zz BK403.out 1).trans rfl;have hcz33_2 : w32.cell? ⟨gb403,2,none⟩=some (.string a0_2):=(zz BK403.out 2).trans rfl;have hfz33_0:=zA BK403.out 0;have hfz33_1:=zA BK403.out 1;have hfz33_2:=zA BK403.out 2)|((with_reducible refine zJ (f:=6) rfl ?_);refine yj (some 12) rfl rfl Try.func6 (by kernel_rfl) rfl #[.agg #[.int .i64 a0_0,.int .i64 a0_1,.string a0_2],.int .i64 1048576] rfl (by (try simp only [zt,zu,zv]);first|done|rfl|(simp only [zw,zx];rfl)|(simp only [yr,ys,zV,zW];rfl)) ?_;(with_reducible refine (F05.calls  a0_0 a0_1 a0_2 1048576 t404 _ A3.out).mono ?_);rintro e w34 ⟨rfl,hb⟩;refine ⟨_,rfl,?_⟩;replace BK403:=zh (zD (g:=gb403) (o:=.cells #[.int .i64 a0_0,.int .i64 a0_1,.string a0_2] 23 (0,0)) (by (with_reducible repeat (first|refine ze ?_ _|refine zf ?_|refine zg ?_ _));exact BK403.out) hb);replace HB:=zh (zC (by repeat (with_reducible first|exact HB.out|apply za|apply zb|apply zc|refine zd ?_ GE403.out)) hb);(try clear hb);(try clear hb2);(try clear hk);(try clear hi);have hcz35_0 : w34.cell? ⟨gb403,0,none⟩=some (.int .i64 a0_0):=(zz BK403.out 0).trans rfl;have hcz35_1 : w34.cell? ⟨gb403,1,none⟩=some (.int .i64 a0_1):=(zz BK403.out 1).trans rfl;have hcz35_2 : w34.cell? ⟨gb403,2,none⟩=some (.string a0_2):=(zz BK403.out 2).trans rfl;have hfz35_0:=zA BK403.out 0;have hfz35_1:=zA BK403.out 1;have hfz35_2:=zA BK403.out 2)|((with_reducible refine zJ (f:=8) rfl ?_);refine yj (some 17) rfl rfl Try.func8 (by kernel_rfl) rfl #[.agg #[.int .i64 a0_0,.int .i64 a0_1,.string a0_2]] rfl (by (try simp only [zt,zu,zv]);first|done|rfl|(simp only [zw,zx];rfl)|(simp only [yr,ys,zV,zW];rfl)) ?_;(with_reducible refine (Fs.calls  a0_0 a0_1 a0_2 t405 t406 t407 _ A8.out).mono ?_);rintro e w36 ⟨rfl,hb⟩;refine ⟨_,rfl,?_⟩;replace BK403:=zh (zD (g:=gb403) (o:=.cells #[.int .i64 a0_0,.int .i64 a0_1,.string a0_2] 23 (0,0)) (by (with_reducible repeat (first|refine ze ?_ _|refine zf ?_|refine zg ?_ _));exact BK403.out) hb);replace HB:=zh (zC (by repeat (with_reducible first|exact HB.out|apply za|apply zb|apply zc|refine zd ?_ GE403.out)) hb);(try clear hb);(try clear hb2);(try clear hk);(try clear hi))|((with_reducible refine zJ (f:=7) rfl ?_);refine yj (some 19) rfl rfl Try.func7 (by kernel_rfl) rfl #[.agg #[.int .i64 t405,.int .i64 t406,.string t407],.bool a1] rfl (by (try simp only [zt,zu,zv]);first|done|rfl|(simp only [zw,zx];rfl)|(simp only [yr,ys,zV,zW];rfl)) ?_;(with_reducible refine (Ft.calls k  t405 t406 t407 a1 t408 t409 _ A9.out).mono ?_);rintro e w37 ⟨rfl,hb⟩;refine ⟨_,rfl,?_⟩;replace BK403:=zh (zD (g:=gb403) (o:=.cells #[.int .i64 a0_0,.int .i64 a0_1,.string a0_2] 23 (0,0)) (by (with_reducible repeat (first|refine ze ?_ _|refine zf ?_|refine zg ?_ _));exact BK403.out) hb);replace HB:=zh (zC (by repeat (with_reducible first|exact HB.out|apply za|apply zb|apply zc|refine zd ?_ GE403.out)) hb);(try clear hb);(try clear hb2);(try clear hk);(try clear hi);have hcz38_0 : w37.cell? ⟨gb403,0,none⟩=some (.int .i64 a0_0):=(zz BK403.out 0).trans rfl;have hcz38_1 : w37.cell? ⟨gb403,1,none⟩=some (.int .i64 a0_1):=(zz BK403.out 1).trans rfl;have hcz38_2 : w37.cell? ⟨gb403,2,none⟩=some (.string a0_2):=(zz BK403.out 2).trans rfl;have hfz38_0:=zA BK403.out 0;have hfz38_1:=zA BK403.out 1;have hfz38_2:=zA BK403.out 2)|((with_reducible refine zJ (f:=8) rfl ?_);refine yj (some 24) rfl rfl Try.func8 (by kernel_rfl) rfl #[.agg #[.int .i64 a0_0,.int .i64 a0_1,.string a0_2]] rfl (by (try simp only [zt,zu,zv]);first|done|rfl|(simp only [zw,zx];rfl)|(simp only [yr,ys,zV,zW];rfl)) ?_;(with_reducible refine (Fs.calls  a0_0 a0_1 a0_2 t410 t411 t412 _ A10.out).mono ?_);rintro e w39 ⟨rfl,hb⟩;refine ⟨_,rfl,?_⟩;replace BK403:=zh (zD (g:=gb403) (o:=.cells #[.int .i64 a0_0,.int .i64 a0_1,.string a0_2] 23 (0,0)) (by (with_reducible repeat (first|refine ze ?_ _|refine zf ?_|refine zg ?_ _));exact BK403.out) hb);replace HB:=zh (zC (by repeat (with_reducible first|exact HB.out|apply za|apply zb|apply zc|refine zd ?_ GE403.out)) hb);(try clear hb);(try clear hb2);(try clear hk);(try clear hi))|((with_reducible refine zJ (f:=9) rfl ?_);refine yj (some 26) rfl rfl Try.func9 (by kernel_rfl) rfl #[.agg #[.int .i64 t410,.int .i64 t411,.string t412],.bool a1] rfl (by (try simp only [zt,zu,zv]);first|done|rfl|(simp only [zw,zx];rfl)|(simp only [yr,ys,zV,zW];rfl)) ?_;(with_reducible refine (Fq.calls k  t410 t411 t412 a1 t413 t414 _ A11.out).mono ?_);rintro e w40 ⟨rfl,hb⟩;refine ⟨_,rfl,?_⟩;replace BK403:=zh (zD (g:=gb403) (o:=.cells #[.int .i64 a0_0,.int .i64 a0_1,.string a0_2] 23 (0,0)) (by (with_reducible repeat (first|refine ze ?_ _|refine zf ?_|refine zg ?_ _));exact BK403.out) hb);replace HB:=zh (zC (by repeat (with_reducible first|exact HB.out|apply za|apply zb|apply zc|refine zd ?_ GE403.out)) hb);(try clear hb);(try clear hb2);(try clear hk);(try clear hi)))
 go_ret
 exact ⟨by first|rfl|(simp [yt,yu] <;> rfl)|(simp [*,yt,yu] <;> rfl),by repeat (with_reducible first|exact HB.out|apply za|apply zb|apply zc|refine zd ?_ GE403.out)⟩

end Go.Proofs.Ytjaknpeeopkojaa.Q
end
section
namespace Go.Proofs.YtjaknpeeopkojaaW.PrintOpen
open Go.RowKit Go.ChangeShapes Go.WideShapes Go.ChangeAt Go.Proofs.YtjaknpeeopkojaaW.PrintWords
def Opens {α : Type} (P : Program) (d : Kd α) (t : TypeId) (good : α→Prop) : Prop :=
 ∀ (H : Type) (enc : TypeId×Value→H) (w : World) (base : Nat) (spare : Nat→Bool) (held : Bool) (fuel : Nat) (cs : List Value) (x : DataW H×List MemPlace),
  DataW.trod enc P w base spare held fuel t cs=some x → ∃ a,d.K w a cs∧good a
variable {P : Program}
theorem opens_int {t : TypeId} {k : IntKind} (ht : P.underlying t=some (.int k)) : Opens P (Kd.int k) t (fun n => (Lit.int k n).wf=true):=by
 intro H enc w base spare held fuel cs x h;obtain ⟨n,hcs,_,hw⟩:=DataW.trod_int ht h;exact ⟨n,hcs,hw⟩
theorem opens_string {t : TypeId} (ht : P.underlying t=some .string) : Opens P Kd.string t (fun s => s.size≤9223372036854775807):=by
 intro H enc w base spare held fuel cs x h;obtain ⟨s,hcs,_,hs⟩:=DataW.trod_string ht h;exact ⟨s,hcs,by unfold maxLen at hs;exact hs⟩
def OpensF {α : Type} (P : Program) (d : Kd α) (fs : List Field) (off : Nat) (good : α→Prop) : Prop :=
 ∀ (H : Type) (enc : TypeId×Value→H) (w : World) (base : Nat) (spare : Nat→Bool) (held : Bool) (fuel : Nat) (cs : List Value),off + d.sz≤cs.length →
  (∀ f ∈ fs,∃ x,DataW.trod enc P w base spare held fuel f.type ((cs.drop f.offset).take (P.cellsOf f.type))=some x) → ∃ a,d.K w a ((cs.drop off).take d.sz)∧good a
theorem opensF_one {α : Type} {d : Kd α} {f : Field} {off : Nat} {g : α→Prop} (ho : f.offset=off) (hc : P.cellsOf f.type=d.sz) (h : Opens P d f.type g) : OpensF P d [f] off g:=by
 intro H enc w base spare held fuel cs _ hf;obtain ⟨x,hx⟩:=hf f (by simp);obtain ⟨a,hk,hg⟩:=h H enc w base spare held fuel _ x hx;rw [ho,hc] at hk;exact ⟨a,hk,hg⟩
theorem opensF_cons {α β : Type} {d : Kd α} {d' : Kd β} {f : Field} {fs : List Field} {off : Nat} {g : α→Prop} {g' : β→Prop} (ho : f.offset=off) (hc : P.cellsOf f.type=d.sz) (h : Opens P d f.type g) (h' : OpensF P d' fs (off + d.sz) g') :
  OpensF P (Kd.pair d d') (f :: fs) off (fun x => g x.1∧g' x.2):=by
 intro H enc w base spare held fuel cs hl hf;obtain ⟨x,hx⟩:=hf f (by simp);obtain ⟨a,hk,hg⟩:=h H enc w base spare held fuel _ x hx;have hl2 : off + (d.sz + d'.sz)≤cs.length:=hl;obtain ⟨b,hk',hg'⟩:=h' H enc w base spare held fuel cs (by omega) (fun f' hf' => hf f' (by simp [hf']));rw [ho,hc] at hk;refine ⟨(a,b),⟨_,_,?_,hk,hk'⟩,hg,hg'⟩;show (cs.drop off).take (d.sz + d'.sz)=_;rw [List.take_add,List.drop_drop]
theorem opens_struct {α β : Type} {t : TypeId} {fs : Array Field} {d : Kd α} {g : α→Prop} {f : β→α} (f' : α→β) (hf : ∀ a,f (f' a)=a) (ht : P.underlying t=some (.struct fs)) (hc : P.cellsOf t=d.sz) (h : OpensF P d fs.toList 0 g) :
  Opens P (Kd.iso d f) t (fun b => g (f b)):=by
 intro H enc w base spare held fuel cs x hx;obtain ⟨xs,n,_,_,hl,hlen,hxs⟩:=DataW.trod_struct ht hx
 obtain ⟨a,hk,hg⟩:=h H enc w base spare held n cs (by omega) (fun y hy => by
  obtain ⟨i,hi⟩:=List.mem_iff_getElem?.1 hy;have:=hxs i y (by simpa using hi)
  have hlt : i<xs.length:=by
   have:=(List.getElem?_eq_some_iff.1 hi).1;rw [hlen]
   simpa using this
  rw [List.getElem?_eq_getElem hlt] at this
  exact ⟨_,this⟩)
 rw [List.drop_zero,show d.sz=cs.length by omega,List.take_length] at hk;exact ⟨f' a,by show d.K w (f (f' a)) cs;rw [hf];exact hk,by show g (f (f' a));rw [hf];exact hg⟩
theorem arg_struct {α : Type} {d : Kd α} {t : TypeId} {fs : Array Field} {g : α→Prop} {H : Type} {enc : TypeId×Value→H} {w : World} {base b0 : Nat} {spare : Nat→Bool} {held : Bool} {r : Reach} {v : Value} {dd : DataW H} {p : List MemPlace}
  (ht : P.underlying t=some (.struct fs)) (h : Opens P d t g) (hv : Value.okWide P w r b0 t v) (hd : DataW.Trod enc P w base spare held t v dd p) : ∃ (a : α) (cs : List Value),v = .agg ⟨cs⟩∧d.K w a cs∧g a:=by
 obtain ⟨cs,rfl,_⟩:=okWide_struct ht hv;obtain ⟨fuel,hf⟩:=hd;obtain ⟨a,hk,hg⟩:=h H enc w base spare held fuel _ _ hf;exact ⟨a,cs.toList,rfl,hk,hg⟩
end Go.Proofs.YtjaknpeeopkojaaW.PrintOpen
end
section
namespace Go.Proofs.Ytjaknpeeopkojaa.Q
open Go.RowKit Go.Proofs.YtjaknpeeopkojaaW.PrintWords Go.Proofs.YtjaknpeeopkojaaW.PrintLast Go.Proofs.YtjaknpeeopkojaaW.PrintMore Go.Proofs.YtjaknpeeopkojaaW.PrintOpen
def good23 (x_ : S23) : Prop:=((Lit.int .i64 x_.f0).wf=true)∧(((Lit.int .i64 x_.f1).wf=true)∧((x_.f2.size≤9223372036854775807)))
theorem opens23 : Opens Try.prog k23 23 good23 :=
 opens_struct (f:=(fun x : S23 => (x.f0,x.f1,x.f2))) (fun ⟨x0,x1,x2⟩ => ⟨x0,x1,x2⟩) (fun _ => rfl) Try.underlying23 (by kernel_rfl) (opensF_cons rfl (by kernel_rfl) (opens_int Try.underlying3) (opensF_cons rfl (by kernel_rfl) (opens_int Try.underlying3) (opensF_one rfl (by kernel_rfl) (opens_string Try.underlying9))))
end Go.Proofs.Ytjaknpeeopkojaa.Q
end
section
namespace Go.Proofs.Ytjaknpeeopkojaa.Q
def F00.Pure : Prop:=∀ (x0 : S23) (x1 : Bool),(good23 x0)→(True) → ∃ k,F00.f k x0.f0 x0.f1 x0.f2 x1=some true
end Go.Proofs.Ytjaknpeeopkojaa.Q
end
section
namespace Go.Proofs.YtjaknpeeopkojaaW.Pl
open Go Go.RowKit Go.Proofs.YtjaknpeeopkojaaW.PrintWords Go.Proofs.YtjaknpeeopkojaaW.PrintMore
theorem w64 {i : Int} (h0 : -9223372036854775808≤i) (h1 : i≤9223372036854775807) : wrap64 i=i:=by unfold wrap64;omega
theorem fuel {k d : Nat} (h : d<k) : ∃ m,k=m + 1∧d≤m:=⟨k - 1,by omega,by omega⟩
theorem rd_at (xs : List Int) (i : Nat) (h : i<xs.length) : rd xs (i : Int)=xs[i]:=by
 unfold rd;simp [List.getD,h]
theorem getD_at {α : Type} (d : α) (xs : List α) (i : Nat) (h : i<xs.length) : xs.getD (i : Int).toNat d=xs[i]:=by
 simp [List.getD,h]
theorem drop_at {α : Type} (xs : List α) (i : Nat) (h : i<xs.length) : xs.drop i=xs[i] :: xs.drop (i + 1):=List.drop_eq_getElem_cons h
theorem ba_toList (a : ByteArray) : a.toList=a.data.toList:=ByteArray.toList_eq a
theorem ba_ext {a b : ByteArray} (h : a.toList=b.toList) : a=b:=by
 rw [ba_toList,ba_toList] at h
 cases a;cases b
 simp at h;rw [h]
def all2 {α β : Type} (e : α→β→Bool) : List α→List β→Bool
 | [],_ => true
 | _ :: _,[] => true
 | x :: xs,y :: ys => e x y && all2 e xs ys
def first {α : Type} (p : α→Bool) : List α→Nat→Int
 | [],_ => -1
 | x :: xs,i => if p x=true then i else first p xs (i + 1)
theorem first_any {α : Type} (p : α→Bool) : ∀ (xs : List α) (i : Nat),decide (first p xs i ≥ 0)=xs.any p
 | [],i => rfl
 | x :: xs,i => by
  by_cases h : p x=true
  ·
   simp [first,h]
  simp only [first,if_neg h,List.any_cons,first_any p xs (i + 1)];simp [h]
theorem first_loop {α : Type} (g : Nat→Int→Option Int) (xs : List α) (p : α→Bool)
  (hstep : ∀ (k i : Nat) (h : i<xs.length),g (k + 1) (i : Int)=if p xs[i]=true then some (i : Int) else g k ((i + 1 : Nat) : Int))
  (hend : ∀ k,g (k + 1) (xs.length : Int)=some (-1)) : ∀ (d k i : Nat),i + d=xs.length→d<k→g k (i : Int)=some (first p (xs.drop i) i):=by
 intro d
 induction d with
 | zero =>
  intro k i hi hk;obtain ⟨k,rfl,_⟩:=fuel hk;obtain rfl : i=xs.length:=by omega
  rw [hend,List.drop_length];rfl
 | succ d ih =>
  intro k i hi hk;obtain ⟨k,rfl,_⟩:=fuel hk;have hlt : i<xs.length:=by omega
  rw [hstep k i hlt,drop_at xs i hlt]
  by_cases h : p xs[i]=true
  ·
   rw [if_pos h]
   simp [first,h]
  rw [if_neg h,ih k (i + 1) (by omega) (by omega)];simp [first,h]
def total {α : Type} (s : α→Nat) : List α→Nat
 | [] => 0
 | x :: xs => s x + total s xs
def less {α : Type} (s : α→Nat) : List α→Int→Int
 | [],l => l
 | x :: xs,l => if l - s x<0 then -1 else less s xs (l - s x)
def Eve {α : Type} (g : Nat→Option α) (v : α) : Prop:=∃ K,∀ k,K≤k→g k=some v
theorem Eve.one {α : Type} {v : α} : Eve (fun _ => some v) v:=⟨0,fun _ _ => rfl⟩
theorem Eve.all {α : Type} {g : Nat→Option α} {v : α} (h : ∀ k,g k=some v) : Eve g v:=⟨0,fun k _ => h k⟩
theorem Eve.of {α : Type} {g : Nat→Option α} {v : α} {n : Nat} (h : ∀ k,n<k→g k=some v) : Eve g v:=⟨n + 1,fun k hk => h k (by omega)⟩
theorem Eve.succ {α : Type} {g : Nat→Option α} {v : α} (h : Eve (fun k => g (k + 1)) v) : Eve g v:=by
 obtain ⟨K,h⟩:=h;refine ⟨K + 1,fun k hk => ?_⟩;obtain ⟨k,rfl⟩ : ∃ m,k=m + 1:=⟨k - 1,by omega⟩;exact h k (by omega)
theorem Eve.bind {α β : Type} {g : Nat→Option α} {f : Nat→α→Option β} {v : α} {u : β} (h : Eve g v) (h2 : Eve (fun k => f k v) u) : Eve (fun k => (g k).bind (f k)) u:=by
 obtain ⟨K,h⟩:=h;obtain ⟨K2,h2⟩:=h2;refine ⟨max K K2,fun k hk => ?_⟩;show (g k).bind (f k)=some u;rw [h k (by omega),Option.bind_some];exact h2 k (by omega)
theorem Eve.ite {α : Type} {c : Prop} [Decidable c] {a b : Nat→Option α} {v : α} (h1 : c→Eve a v) (h2 : ¬ c→Eve b v) : Eve (fun k => if c then a k else b k) v:=by
 by_cases h : c
 ·
  simp only [if_pos h];exact h1 h
 simp only [if_neg h];exact h2 h
theorem Eve.get {α : Type} {g : Nat→Option α} {v : α} (h : Eve g v) : ∃ k,g k=some v:=by
 obtain ⟨K,h⟩:=h;exact ⟨K,h K (by omega)⟩
theorem Eve.eq {α : Type} {g : Nat→Option α} {v u : α} (h : Eve g v) (e : v=u) : Eve g u:=e ▸ h
theorem Eve.congr {α : Type} {g f : Nat→Option α} {v : α} (h : Eve g v) (e : ∀ k,f k=g k) : Eve f v:=by
 obtain ⟨K,h⟩:=h;exact ⟨K,fun k hk => by rw [e,h k hk]⟩
theorem ev_loop {σ α β : Type} (xs : List α) (g : Nat→σ→Int→Option β) (R : Nat→σ→List α→β) (I : Nat→σ→Prop)
  (hend : ∀ s,I xs.length s→Eve (fun k => g (k + 1) s (xs.length : Int)) (R xs.length s []))
  (hstep : ∀ (i : Nat) (h : i<xs.length) (s : σ),I i s→(∀ s',I (i + 1) s' → Eve (fun k => g k s' ((i + 1 : Nat) : Int)) (R (i + 1) s' (xs.drop (i + 1)))) →
   Eve (fun k => g (k + 1) s (i : Int)) (R i s (xs[i] :: xs.drop (i + 1)))) :
  ∀ (d i : Nat) (s : σ),i + d=xs.length→I i s→Eve (fun k => g k s (i : Int)) (R i s (xs.drop i)):=by
 intro d
 induction d with
 | zero =>
  intro i s hi hI;obtain rfl : i=xs.length:=by omega
  rw [List.drop_length];exact Eve.succ (hend s hI)
 | succ d ih =>
  intro i s hi hI;have hlt : i<xs.length:=by omega
  rw [drop_at xs i hlt];exact Eve.succ (hstep i hlt s hI (fun s' h' => ih (i + 1) s' (by omega) h'))
theorem ev_loop0 {σ α β : Type} (xs : List α) (g : Nat→σ→Int→Option β) (R : Nat→σ→List α→β) (I : Nat→σ→Prop)
  (hend : ∀ s,I xs.length s→Eve (fun k => g (k + 1) s (xs.length : Int)) (R xs.length s []))
  (hstep : ∀ (i : Nat) (h : i<xs.length) (s : σ),I i s→(∀ s',I (i + 1) s' → Eve (fun k => g k s' ((i + 1 : Nat) : Int)) (R (i + 1) s' (xs.drop (i + 1)))) →
   Eve (fun k => g (k + 1) s (i : Int)) (R i s (xs[i] :: xs.drop (i + 1)))) (s : σ) (h0 : I 0 s) : Eve (fun k => g k s 0) (R 0 s xs):=by
 have:=ev_loop xs g R I hend hstep xs.length 0 s (by omega) h0
 simpa using this
end Go.Proofs.YtjaknpeeopkojaaW.Pl
end
section
namespace Go.Proofs.Ytjaknpeeopkojaa.Pure
open Go Go.RowKit Go.Proofs.Ytjaknpeeopkojaa.Q Go.Proofs.YtjaknpeeopkojaaW.PrintWords Go.Proofs.YtjaknpeeopkojaaW.PrintLast Go.Proofs.YtjaknpeeopkojaaW.PrintMore Go.Proofs.YtjaknpeeopkojaaW.Pl
theorem wi {i : Nat} (h : i≤9223372036854775806) : wrap64 ((i : Int) + 1)=((i + 1 : Nat) : Int):=w64 (by omega) (by omega)
theorem w64m (y : Int) : wrap64 y=(y + 9223372036854775808) % 18446744073709551616 - 9223372036854775808:=by unfold wrap64;omega
def stp (x b : Int) : Int:=wrap64 (wrap64 (x * 256) + wrap64 b)
theorem or_byte (x b : Int) (h0 : 0≤b) (h1 : b≤255) : Go.bits .or .i64 (wrap64 (x * 256)) (wrap64 b)=stp x b:=by
 have e1 : (BitVec.ofInt 64 (wrap64 (x * 256))).toNat=2 ^ 8 * (x % 72057594037927936).toNat:=by
  rw [BitVec.toNat_ofInt,w64m];omega
 have e2 : (BitVec.ofInt 64 (wrap64 b)).toNat=b.toNat:=by
  rw [BitVec.toNat_ofInt,w64m];omega
 have e3 : (BitVec.ofInt 64 (wrap64 (x * 256)) ||| BitVec.ofInt 64 (wrap64 b)).toNat=2 ^ 8 * (x % 72057594037927936).toNat + b.toNat:=by
  rw [BitVec.toNat_or,e1,e2,Nat.two_pow_add_eq_or_of_lt (by omega)]
 show IntKind.wrap .i64 ((BitVec.ofInt 64 (wrap64 (x * 256)) ||| BitVec.ofInt 64 (wrap64 b)).toNat : Int)=_;rw [e3,i64_w];unfold stp;rw [w64m,w64m,w64m,w64m]
 omega
def bigV (l : List Int) : Int:=l.foldl stp 0
theorem bytes_in (a : ByteArray) : ∀ b ∈ bytesOf a,0≤b∧b≤255:=by
 intro b hb;obtain ⟨c,_,rfl⟩:=List.mem_map.1 hb;have:=c.toNat_lt
 omega
theorem bt_get (a : ByteArray) (i : Nat) (h : i<(bytesOf a).length) : bt a (i : Int)=(bytesOf a)[i]:=by
 rw [← rd_bytesOf,rd_at _ _ h]
theorem big_tells (l : List Int) (hl : l.length≤1048576) (hb : ∀ b ∈ l,0≤b∧b≤255) : Eve (fun k => Fl.f k l) (bigV l):=by
 simp only [Fl.f];refine ev_loop0 l (fun k (s : Int) i => Fl.l0 k s l (l.length : Int) i) (fun _ s r => r.foldl stp s) (fun _ _ => True) (fun s _ => ?_) (fun i hi s _ ih => ?_) 0 trivial
 ·
  simp only [Fl.l0]
  exact Eve.ite (fun h => absurd h (by omega)) (fun _ => Eve.one)
 have hx:=hb l[i] (List.getElem_mem hi);simp only [Fl.l0];refine Eve.ite (fun _ => ?_) (fun h => absurd (by omega) h);refine Eve.ite (fun _ => ?_) (fun h => absurd (by omega) h);refine Eve.ite (fun _ => ?_) (fun h => absurd (by omega) h);simp only [rd_at _ _ hi,or_byte _ _ hx.1 hx.2,wi (show i≤9223372036854775806 by omega)];exact ih _ trivial
theorem of_tells (a : ByteArray) (hl : a.size≤1048576) : Eve (fun k => Fj.f k a) (bigV (bytesOf a)):=by
 have hn : (bytesOf a).length=a.size:=bytesOf_length a;simp only [Fj.f];refine ev_loop0 (bytesOf a) (fun k (s : Int) i => Fj.l0 k a s i) (fun _ s r => r.foldl stp s) (fun _ _ => True) (fun s _ => ?_) (fun i hi s _ ih => ?_) 0 trivial
 ·
  simp only [Fj.l0]
  exact Eve.ite (fun h => absurd h (by omega)) (fun _ => Eve.one)
 simp only [Fj.l0];refine Eve.ite (fun _ => ?_) (fun h => absurd (by omega) h);refine Eve.ite (fun _ => ?_) (fun h => absurd (by omega) h);simp only [bt_get a i hi,wi (show i≤9223372036854775806 by omega)];exact ih _ trivial
def zer (n : Nat) : ByteArray:=⟨(Lib.repeatL [0] n).toArray⟩
def takV (a : ByteArray) (f : Bool) (n : Nat) : ByteArray×ByteArray×Bool:=if a.size<n then (zer n,a,true) else (a.extract 0 n,a.extract n a.size,f)
def numV (a : ByteArray) (f : Bool) (n : Nat) : Int×ByteArray×Bool:=if a.size<n then (0,a,true) else (bigV (bytesOf (a.extract 0 n)),a.extract n a.size,f)
theorem take_tells (a : ByteArray) (f : Bool) (n : Nat) (hn : n≤65535) : Fr.f a f (n : Int)=some (takV a f n):=by
 unfold Fr.f takV
 by_cases h : a.size<n
 ·
  rw [if_pos (by omega),if_pos h]
  unfold strings_Repeat.f;rw [if_pos (by omega),if_pos (by rw [show (⟨#[0]⟩ : ByteArray).size=1 from rfl];omega),if_pos (by omega)]
  rfl
 rw [if_neg (by omega),if_pos (by omega),if_pos (by omega),if_neg h]
 rfl
theorem zer_size (n : Nat) : (zer n).size=n:=by
 show (Lib.repeatL [0] n).toArray.size=n;rw [List.size_toArray,Lib.repeatL_length];simp
theorem fold_zero : ∀ n : Nat,((Lib.repeatL [0] n).map fun b : UInt8 => (b.toNat : Int)).foldl stp 0=0
 | 0 => rfl
 | n + 1 => by
  have e : stp 0 0=0:=by unfold stp;rw [w64m,w64m,w64m];omega
  simp only [Lib.repeatL,List.cons_append,List.nil_append,List.map_cons,List.foldl_cons];rw [show ((0 : UInt8).toNat : Int)=0 from rfl,e];exact fold_zero n
theorem big_zer (n : Nat) : bigV (bytesOf (zer n))=0:=by
 unfold bigV bytesOf zer;exact fold_zero n
theorem num_tells (a : ByteArray) (f : Bool) (n : Nat) (hn : n≤65535) : Eve (fun k => Fi.f k a f (n : Int)) (numV a f n):=by
 simp only [Fi.f,take_tells a f n hn,Option.bind_some];unfold takV numV
 by_cases h : a.size<n
 ·
  simp only [if_pos h]
  have hz:=zer_size n;refine Eve.ite (fun _ => ?_) (fun h => absurd (by omega) h);refine Eve.bind (big_tells _ (by rw [bytesOf_length,hz];omega) (bytes_in _)) ?_;rw [big_zer];exact Eve.one
 simp only [if_neg h];have hz : (a.extract 0 n).size≤n:=by rw [ByteArray.size_extract];omega
 refine Eve.ite (fun _ => ?_) (fun h => absurd (by omega) h);exact Eve.bind (big_tells _ (by rw [bytesOf_length];omega) (bytes_in _)) Eve.one
theorem big1 (x : Int) (h : 0≤x∧x≤255) : bigV [x]=x:=by
 simp only [bigV,List.foldl_cons,List.foldl_nil,stp];rw [w64m,w64m,w64m];omega
theorem big2 (x y : Int) (h : 0≤x∧x≤255) (h2 : 0≤y∧y≤255) : 0≤bigV [x,y]∧bigV [x,y]≤65535:=by
 simp only [bigV,List.foldl_cons,List.foldl_nil,stp];simp only [w64m];omega
theorem len1 {l : List Int} (h : l.length=1) : ∃ x,l=[x]:=by
 match l,h with
 | [x],_ => exact ⟨x,rfl⟩
theorem len2 {l : List Int} (h : l.length=2) : ∃ x y,l=[x,y]:=by
 match l,h with
 | [x,y],_ => exact ⟨x,y,rfl⟩
theorem bytes_ext1 (a : ByteArray) (i : Nat) (h : i<a.size) : bigV (bytesOf (a.extract i (i + 1)))=bt a (i : Int):=by
 have hl : (bytesOf (a.extract i (i + 1))).length=1:=by rw [bytesOf_length,ByteArray.size_extract];omega
 obtain ⟨x,hx⟩:=len1 hl;have h2:=bytes_in (a.extract i (i + 1)) x (by rw [hx];simp);have h3:=bt_get (a.extract i (i + 1)) 0 (by omega);rw [hx,big1 x h2];simp only [hx,List.getElem_cons_zero] at h3;rw [← h3];unfold bt;have e0 : (((0 : Nat) : Int)).toNat=0:=rfl;have e1 : ((i : Int)).toNat=i:=Int.toNat_natCast i;simp only [e0,e1];rw [dif_pos (by rw [ByteArray.size_extract];omega),dif_pos h]
 congr 2
 rw [ByteArray.getElem_extract];simp
theorem bytes_ext2 (a : ByteArray) (i : Nat) (h : i + 2≤a.size) : 0≤bigV (bytesOf (a.extract i (i + 2)))∧bigV (bytesOf (a.extract i (i + 2)))≤65535:=by
 have hl : (bytesOf (a.extract i (i + 2))).length=2:=by rw [bytesOf_length,ByteArray.size_extract];omega
 obtain ⟨x,y,hx⟩:=len2 hl;have hb:=bytes_in (a.extract i (i + 2));rw [hx] at hb ⊢;exact big2 x y (hb x (by simp)) (hb y (by simp))
abbrev IVal:=S27
abbrev eB : ByteArray:=⟨#[]⟩
abbrev Rd:=Int×Int×ByteArray×ByteArray×Bool
def valV (a : ByteArray) (f : Bool) : Rd :=
  let q:=numV a f 1
  if q.1=1 then (q.1,(numV q.2.1 q.2.2 1).1,eB,(numV q.2.1 q.2.2 1).2.1,(numV q.2.1 q.2.2 1).2.2)
  else if q.1=2 then (q.1,wrap64 ((numV q.2.1 q.2.2 8).1 - 4611686018427387904),eB,(numV q.2.1 q.2.2 8).2.1,(numV q.2.1 q.2.2 8).2.2)
  else if q.1=3∨q.1=4∨q.1=5 then
    let r:=numV q.2.1 q.2.2 2
    (q.1,0,(takV r.2.1 r.2.2 r.1.toNat).1,(takV r.2.1 r.2.2 r.1.toNat).2.1,(takV r.2.1 r.2.2 r.1.toNat).2.2)
  else (q.1,0,eB,q.2.1,q.2.2)
theorem num2_in (a : ByteArray) (f : Bool) : 0≤(numV a f 2).1∧(numV a f 2).1≤65535:=by
  unfold numV
  by_cases h : a.size<2
  · rw [if_pos h];simp
  rw [if_neg h];exact bytes_ext2 a 0 (by omega)
theorem j0_tells (q x1 : Int) (t : ByteArray) (a : ByteArray) (f : Bool) : Eve (fun k => Fb.j0 k true a f q x1 t) (q,x1,(takV (numV a f 2).2.1 (numV a f 2).2.2 (numV a f 2).1.toNat).1,(takV (numV a f 2).2.1 (numV a f 2).2.2 (numV a f 2).1.toNat).2.1,(takV (numV a f 2).2.1 (numV a f 2).2.2 (numV a f 2).1.toNat).2.2):=by
  refine Eve.succ ?_;simp only [Fb.j0,if_true];refine Eve.bind (num_tells a f 2 (by omega)) ?_;have hb:=num2_in a f;have ht:=take_tells (numV a f 2).2.1 (numV a f 2).2.2 (numV a f 2).1.toNat (by omega);rw [show (((numV a f 2).1.toNat : Nat) : Int)=(numV a f 2).1 from Int.toNat_of_nonneg hb.1] at ht;simp only [ht,Option.bind_some];exact Eve.one
theorem value_tells (a : ByteArray) (f : Bool) : Eve (fun k => Fb.f k a f) (valV a f):=by
  simp only [Fb.f];refine Eve.bind (num_tells a f 1 (by omega)) ?_;unfold valV;generalize numV a f 1=q;simp only;refine Eve.ite (fun h => ?_) (fun h => ?_)
  · rw [if_pos h]
    exact Eve.bind (num_tells q.2.1 q.2.2 1 (by omega)) Eve.one
  rw [if_neg h];refine Eve.ite (fun h2 => ?_) (fun h2 => ?_)
  · rw [if_pos h2]
    exact Eve.bind (num_tells q.2.1 q.2.2 8 (by omega)) Eve.one
  rw [if_neg h2];refine Eve.ite (fun h3 => ?_) (fun h3 => ?_)
  · rw [if_pos (.inl h3)]
    simp only [h3,beq_self_eq_true];exact j0_tells _ _ _ _ _
  refine Eve.ite (fun h4 => ?_) (fun h4 => ?_)
  · rw [if_pos (.inr (.inl h4))]
    simp only [h4,beq_self_eq_true];exact j0_tells _ _ _ _ _
  by_cases h5 : q.1=5
  · rw [if_pos (.inr (.inr h5))]
    simp only [h5,beq_self_eq_true];exact j0_tells _ _ _ _ _
  rw [if_neg (by omega)];have : (q.1 == 5)=false:=by simpa using h5
  simp only [this];refine Eve.succ ?_;simp only [Fb.j0,Bool.false_eq_true,if_false];exact Eve.one
def nxtV (a : ByteArray) : Option (IVal×ByteArray) :=
  if a.size=0 then none
  else if bt a 0=0 then some (⟨0,0,eB⟩,a.extract 1 a.size)
  else if bt a 0=1 then (if a.size<2 then none else some (⟨1,bt a 1,eB⟩,a.extract 2 a.size))
  else if bt a 0=2 then (if a.size<9 then none else if bt a 1 > 127 then none else some (⟨2,wrap64 (bigV (bytesOf (a.extract 1 9)) - 4611686018427387904),eB⟩,a.extract 9 a.size))
  else if bt a 0=3∨bt a 0=4∨bt a 0=5 then
    (if a.size<3 then none else if (a.size : Int)<3 + bigV (bytesOf (a.extract 1 3)) then none
     else some (⟨bt a 0,0,a.extract 3 (3 + bigV (bytesOf (a.extract 1 3))).toNat⟩,a.extract (3 + bigV (bytesOf (a.extract 1 3))).toNat a.size))
  else none
def told (o : Option (IVal×ByteArray)) : Rd:=match o with|some (v,r) => (v.f0,v.f1,v.f2,r,true)|none => (0,0,eB,eB,false)
theorem wbt (a : ByteArray) (i : Int) : wrap64 (bt a i)=bt a i:=w64 (by have:=bt_range a i;omega) (by have:=bt_range a i;omega)
theorem n0_tells (a : ByteArray) (q : Int) (hs : a.size≤1048576) : Eve (fun k => F1.j0 k a true q 0 eB)
    (told (if a.size<3 then none else if (a.size : Int)<3 + bigV (bytesOf (a.extract 1 3)) then none
     else some (⟨q,0,a.extract 3 (3 + bigV (bytesOf (a.extract 1 3))).toNat⟩,a.extract (3 + bigV (bytesOf (a.extract 1 3))).toNat a.size))):=by
  refine Eve.succ ?_;simp only [F1.j0,if_true];refine Eve.ite (fun h => ?_) (fun h => ?_)
  · rw [if_pos (by omega)];exact Eve.one
  rw [if_neg (by omega)];refine Eve.ite (fun _ => ?_) (fun h => absurd (by omega) h);refine Eve.ite (fun _ => ?_) (fun h => absurd (by omega) h);refine Eve.bind (of_tells (a.extract 1 3) (by rw [ByteArray.size_extract];omega)) ?_;have hb:=bytes_ext2 a 1 (by omega);simp only [show 1 + 2=3 from rfl] at hb;have hw : wrap64 (3 + bigV (bytesOf (a.extract 1 3)))=3 + bigV (bytesOf (a.extract 1 3)):=w64 (by omega) (by omega);simp only [hw];refine Eve.ite (fun h2 => ?_) (fun h2 => ?_)
  · rw [if_pos h2];exact Eve.one
  rw [if_neg h2];refine Eve.ite (fun _ => ?_) (fun h => absurd (by omega) h);refine Eve.ite (fun _ => ?_) (fun h => absurd (by omega) h);exact Eve.ite (fun _ => Eve.one) (fun h => absurd (by omega) h)
theorem next_tells (a : ByteArray) (hs : a.size≤1048576) : Eve (fun k => F1.f k a) (told (nxtV a)):=by
  unfold nxtV;simp only [F1.f,wbt];refine Eve.ite (fun h => ?_) (fun h => ?_)
  · have hz : a.size=0:=by omega
    rw [if_pos hz];exact Eve.one
  have hz : ¬ a.size=0:=by omega
  rw [if_neg hz];refine Eve.ite (fun _ => ?_) (fun h => absurd (by omega) h);refine Eve.ite (fun h0 => ?_) (fun h0 => ?_)
  · rw [if_pos h0]
    refine Eve.ite (fun _ => ?_) (fun h => absurd (by omega) h);exact Eve.one.eq (by rw [h0];rfl)
  rw [if_neg h0];refine Eve.ite (fun h1 => ?_) (fun h1 => ?_)
  · rw [if_pos h1]
    refine Eve.succ ?_;simp only [F1.j1,wbt,h1];have hw : wrap64 (1 + 1)=2:=w64 (by omega) (by omega);simp only [hw,if_true];refine Eve.ite (fun h => ?_) (fun h => ?_)
    · have hy : a.size<2:=by omega
      rw [if_pos hy];exact Eve.one
    have hy : ¬ a.size<2:=by omega
    rw [if_neg hy];refine Eve.ite (fun _ => ?_) (fun h => absurd (by omega) h);refine Eve.ite (fun _ => ?_) (fun h => absurd (by omega) h);exact Eve.ite (fun _ => Eve.one) (fun h => absurd (by omega) h)
  rw [if_neg h1];refine Eve.ite (fun h2 => ?_) (fun h2 => ?_)
  · rw [if_pos h2]
    refine Eve.succ ?_;simp only [F1.j1,h2];have hw : wrap64 (1 + 8)=9:=w64 (by omega) (by omega);simp only [hw];refine Eve.ite (fun h => ?_) (fun h => ?_)
    · have hy : a.size<9:=by omega
      rw [if_pos hy];exact Eve.one
    have hy : ¬ a.size<9:=by omega
    rw [if_neg hy];refine Eve.ite (fun h => absurd h (by omega)) (fun _ => ?_);refine Eve.ite (fun _ => ?_) (fun h => absurd (by omega) h);refine Eve.ite (fun h => ?_) (fun h => ?_)
    · rw [if_pos h];exact Eve.one
    rw [if_neg h];refine Eve.ite (fun _ => ?_) (fun h => absurd (by omega) h);refine Eve.ite (fun _ => ?_) (fun h => absurd (by omega) h);refine Eve.bind (of_tells (a.extract 1 9) (by rw [ByteArray.size_extract];omega)) ?_;refine Eve.ite (fun _ => ?_) (fun h => absurd (by omega) h);exact Eve.ite (fun _ => Eve.one) (fun h => absurd (by omega) h)
  rw [if_neg h2];refine Eve.ite (fun h3 => ?_) (fun h3 => ?_)
  · rw [if_pos (show bt a 0=3∨bt a 0=4∨bt a 0=5 from .inl h3)]
    simp only [h3,beq_self_eq_true];exact n0_tells a 3 hs
  refine Eve.ite (fun h4 => ?_) (fun h4 => ?_)
  · rw [if_pos (show bt a 0=3∨bt a 0=4∨bt a 0=5 from .inr (.inl h4))]
    simp only [h4,beq_self_eq_true];exact n0_tells a 4 hs
  by_cases h5 : bt a 0=5
  · rw [if_pos (show bt a 0=3∨bt a 0=4∨bt a 0=5 from .inr (.inr h5))]
    simp only [h5,beq_self_eq_true];exact n0_tells a 5 hs
  have hy : ¬ (bt a 0=3∨bt a 0=4∨bt a 0=5):=by omega
  rw [if_neg hy];have : (bt a 0 == 5)=false:=by simpa using h5
  simp only [this];refine Eve.succ ?_;simp only [F1.j0,Bool.false_eq_true,if_false];exact Eve.one
def Bad (v : IVal) : Prop:=v.f0<0∨v.f0 > 5∨(v.f0=2∧(v.f1 < -1000000000000∨v.f1 > 1000000000000))
def rdv (r : Rd) : IVal:=⟨r.1,r.2.1,r.2.2.1⟩
theorem num_one (a : ByteArray) (f : Bool) (h : 0<a.size) : numV a f 1=(bt a 0,a.extract 1 a.size,f):=by
  unfold numV;rw [if_neg (by omega)];have:=bytes_ext1 a 0 h;simp only [Nat.zero_add] at this;rw [this];rfl
theorem num_none (a : ByteArray) (f : Bool) (n : Nat) (h : a.size<n) : numV a f n=(0,a,true):=by unfold numV;rw [if_pos h]
theorem num_some (a : ByteArray) (f : Bool) (n : Nat) (h : n≤a.size) : numV a f n=(bigV (bytesOf (a.extract 0 n)),a.extract n a.size,f):=by unfold numV;rw [if_neg (by omega)]
theorem tail_size (a : ByteArray) (n : Nat) : (a.extract n a.size).size=a.size - n:=by rw [ByteArray.size_extract];omega
theorem ext_ext (a : ByteArray) (n i j : Nat) (h : n + j≤a.size) : (a.extract n a.size).extract i j=a.extract (n + i) (n + j):=by
  rw [ByteArray.extract_extract,Nat.min_eq_left h]
theorem ext_tail (a : ByteArray) (n i : Nat) (h : n≤a.size) : (a.extract n a.size).extract i (a.extract n a.size).size=a.extract (n + i) a.size:=by
  rw [tail_size,ByteArray.extract_extract]
  congr 1
  omega
theorem big8 (l : List Int) (x : Int) (r : List Int) (hl : l=x :: r) (hr : r.length=7) (hb : ∀ b ∈ l,0≤b∧b≤255) (hx : x > 127) : wrap64 (bigV l - 4611686018427387904) < -1000000000000∨wrap64 (bigV l - 4611686018427387904) > 1000000000000:=by
  subst hl
  match r,hr with
  | [b1,b2,b3,b4,b5,b6,b7],_ =>
    have h0:=hb x (by simp);have h1:=hb b1 (by simp);have h2:=hb b2 (by simp);have h3:=hb b3 (by simp);have h4:=hb b4 (by simp);have h5:=hb b5 (by simp);have h6:=hb b6 (by simp);have h7:=hb b7 (by simp)
    have e : bigV [x,b1,b2,b3,b4,b5,b6,b7]=x * 72057594037927936 + b1 * 281474976710656 + b2 * 1099511627776 + b3 * 4294967296 + b4 * 16777216 + b5 * 65536 + b6 * 256 + b7 - 18446744073709551616:=by
      simp only [bigV,List.foldl_cons,List.foldl_nil];have s0 : stp 0 x=x:=by unfold stp;simp only [w64m];omega
      have s1 : stp x b1=x * 256 + b1:=by unfold stp;simp only [w64m];omega
      have s2 : stp (x * 256 + b1) b2=x * 65536 + b1 * 256 + b2:=by unfold stp;simp only [w64m];omega
      have s3 : stp (x * 65536 + b1 * 256 + b2) b3=x * 16777216 + b1 * 65536 + b2 * 256 + b3:=by unfold stp;simp only [w64m];omega
      have s4 : stp (x * 16777216 + b1 * 65536 + b2 * 256 + b3) b4=x * 4294967296 + b1 * 16777216 + b2 * 65536 + b3 * 256 + b4:=by unfold stp;simp only [w64m];omega
      have s5 : stp (x * 4294967296 + b1 * 16777216 + b2 * 65536 + b3 * 256 + b4) b5=x * 1099511627776 + b1 * 4294967296 + b2 * 16777216 + b3 * 65536 + b4 * 256 + b5:=by unfold stp;simp only [w64m];omega
      have s6 : stp (x * 1099511627776 + b1 * 4294967296 + b2 * 16777216 + b3 * 65536 + b4 * 256 + b5) b6=x * 281474976710656 + b1 * 1099511627776 + b2 * 4294967296 + b3 * 16777216 + b4 * 65536 + b5 * 256 + b6:=by unfold stp;simp only [w64m];omega
      rw [s0,s1,s2,s3,s4,s5,s6];unfold stp;simp only [w64m];omega
    rw [e,w64m]
    omega
theorem nxt_some (a : ByteArray) (v : IVal) (r : ByteArray) (h : nxtV a=some (v,r)) : valV a false=(v.f0,v.f1,v.f2,r,false)∧r.size<a.size:=by
  unfold nxtV at h
  by_cases hz : a.size=0
  · rw [if_pos hz] at h;simp at h
  rw [if_neg hz] at h;unfold valV;rw [num_one a false (by omega)];simp only;have ht:=tail_size a 1
  by_cases h0 : bt a 0=0
  · rw [if_pos h0] at h
    obtain ⟨rfl,rfl⟩ : _∧_:=by simpa using h
    rw [if_neg (by omega),if_neg (by omega),if_neg (by omega),h0];exact ⟨rfl,by omega⟩
  rw [if_neg h0] at h
  by_cases h1 : bt a 0=1
  · rw [if_pos h1] at h
    by_cases h2 : a.size<2
    · rw [if_pos h2] at h;simp at h
    rw [if_neg h2] at h;obtain ⟨rfl,rfl⟩ : _∧_:=by simpa using h
    rw [if_pos h1,num_some _ _ _ (by omega),ext_ext _ _ _ _ (by omega),ext_tail _ _ _ (by omega),h1];have:=bytes_ext1 a 1 (by omega);refine ⟨?_,by rw [tail_size];omega⟩;show (1,bigV (bytesOf (a.extract 1 (1 + 1))),eB,a.extract 2 a.size,false)=_;rw [this];rfl
  rw [if_neg h1] at h
  by_cases h2 : bt a 0=2
  · rw [if_pos h2] at h
    by_cases h3 : a.size<9
    · rw [if_pos h3] at h;simp at h
    rw [if_neg h3] at h
    by_cases h4 : bt a 1 > 127
    · rw [if_pos h4] at h;simp at h
    rw [if_neg h4] at h;obtain ⟨rfl,rfl⟩ : _∧_:=by simpa using h
    rw [if_neg h1,if_pos h2,num_some _ _ _ (by omega),ext_ext _ _ _ _ (by omega),ext_tail _ _ _ (by omega),h2];exact ⟨rfl,by rw [tail_size];omega⟩
  rw [if_neg h2] at h
  by_cases h3 : bt a 0=3∨bt a 0=4∨bt a 0=5
  · rw [if_pos h3] at h
    by_cases h4 : a.size<3
    · rw [if_pos h4] at h;simp at h
    rw [if_neg h4] at h;have hb:=bytes_ext2 a 1 (by omega);simp only [show 1 + 2=3 from rfl] at hb
    by_cases h5 : (a.size : Int)<3 + bigV (bytesOf (a.extract 1 3))
    · rw [if_pos h5] at h;simp at h
    rw [if_neg h5] at h;obtain ⟨rfl,rfl⟩ : _∧_:=by simpa using h
    rw [if_neg h1,if_neg h2,if_pos h3,num_some _ _ _ (by omega),ext_ext _ _ _ _ (by omega),ext_tail _ _ _ (by omega)];simp only [show 1 + 0=1 from rfl,show 1 + 2=3 from rfl];generalize bigV (bytesOf (a.extract 1 3))=n at hb h5 ⊢;obtain ⟨n,rfl⟩ : ∃ m : Nat,n=(m : Int):=⟨n.toNat,by omega⟩;have e1 : ((n : Int)).toNat=n:=Int.toNat_natCast n;have e2 : (3 + (n : Int)).toNat=3 + n:=by omega
    have ht3:=tail_size a 3;unfold takV;simp only [e1,e2];rw [if_neg (by omega),ext_ext _ _ _ _ (by omega),ext_tail _ _ _ (by omega)];exact ⟨rfl,by rw [tail_size];omega⟩
  rw [if_neg h3] at h;simp at h
theorem nxt_none (a : ByteArray) (h : nxtV a=none) : (valV a false).2.2.2.2=true∨Bad (rdv (valV a false)):=by
  by_cases hz : a.size=0
  · left
    unfold valV;rw [num_none a false 1 (by omega)];simp
  unfold nxtV at h;rw [if_neg hz] at h;unfold valV;rw [num_one a false (by omega)];simp only;have ht:=tail_size a 1
  by_cases h0 : bt a 0=0
  · rw [if_pos h0] at h;simp at h
  rw [if_neg h0] at h
  by_cases h1 : bt a 0=1
  · rw [if_pos h1] at h ⊢
    by_cases h2 : a.size<2
    · left;rw [num_none _ _ _ (by omega)]
    rw [if_neg h2] at h;simp at h
  rw [if_neg h1] at h ⊢
  by_cases h2 : bt a 0=2
  · rw [if_pos h2] at h ⊢
    by_cases h3 : a.size<9
    · left;rw [num_none _ _ _ (by omega)]
    rw [if_neg h3] at h
    by_cases h4 : bt a 1 > 127
    · right;right;right
      refine ⟨h2,?_⟩;rw [num_some _ _ _ (by omega),ext_ext _ _ _ _ (by omega)];simp only [show 1 + 0=1 from rfl,show 1 + 8=9 from rfl,rdv];have hl : (bytesOf (a.extract 1 9)).length=8:=by rw [bytesOf_length,ByteArray.size_extract];omega
      have hg:=bt_get (a.extract 1 9) 0 (by omega)
      have he : bt (a.extract 1 9) ((0 : Nat) : Int)=bt a 1:=by
        unfold bt;have e0 : (((0 : Nat) : Int)).toNat=0:=rfl;have e1 : ((1 : Int)).toNat=1:=rfl;simp only [e0,e1];rw [dif_pos (by rw [ByteArray.size_extract];omega),dif_pos (by omega)]
        congr 2
        rw [ByteArray.getElem_extract]
      cases hc : bytesOf (a.extract 1 9) with
      | nil => rw [hc] at hl;simp at hl
      | cons x r =>
        have hb:=bytes_in (a.extract 1 9);rw [he] at hg;simp only [hc,List.getElem_cons_zero] at hg;rw [hc] at hl hb;exact big8 _ x r rfl (by simpa using hl) hb (by omega)
    rw [if_neg h4] at h;simp at h
  rw [if_neg h2] at h ⊢
  by_cases h3 : bt a 0=3∨bt a 0=4∨bt a 0=5
  · rw [if_pos h3] at h ⊢
    left
    by_cases h4 : a.size<3
    · rw [num_none _ _ 2 (by omega)]
      unfold takV;simp
    rw [if_neg h4] at h;have hb:=bytes_ext2 a 1 (by omega);simp only [show 1 + 2=3 from rfl] at hb
    by_cases h5 : (a.size : Int)<3 + bigV (bytesOf (a.extract 1 3))
    · rw [num_some _ _ 2 (by omega),ext_ext _ _ _ _ (by omega),ext_tail _ _ _ (by omega)]
      simp only [show 1 + 0=1 from rfl,show 1 + 2=3 from rfl];unfold takV;rw [if_pos (by rw [tail_size];omega)]
    rw [if_neg h5] at h;simp at h
  rw [if_neg h3]
  right
  have:=bt_range a 0
  right;left
  show bt a 0 > 5
  omega
theorem num_mono (a : ByteArray) (f : Bool) (n : Nat) : (numV a f n).2.1.size≤a.size∧(f=true→(numV a f n).2.2=true):=by
  unfold numV
  by_cases h : a.size<n
  · rw [if_pos h];exact ⟨Nat.le_refl _,fun _ => rfl⟩
  rw [if_neg h];exact ⟨by simp only [tail_size];omega,fun h => h⟩
theorem tak_mono (a : ByteArray) (f : Bool) (n : Nat) : (takV a f n).2.1.size≤a.size∧(f=true→(takV a f n).2.2=true):=by
  unfold takV
  by_cases h : a.size<n
  · rw [if_pos h];exact ⟨Nat.le_refl _,fun _ => rfl⟩
  rw [if_neg h];exact ⟨by simp only [tail_size];omega,fun h => h⟩
theorem val_mono (a : ByteArray) (f : Bool) : (valV a f).2.2.2.1.size≤(numV a f 1).2.1.size∧(f=true→(valV a f).2.2.2.2=true):=by
  have hq:=num_mono a f 1;unfold valV;generalize numV a f 1=q at hq;simp only
  by_cases h1 : q.1=1
  · rw [if_pos h1]
    have:=num_mono q.2.1 q.2.2 1;exact ⟨this.1,fun h => this.2 (hq.2 h)⟩
  rw [if_neg h1]
  by_cases h2 : q.1=2
  · rw [if_pos h2]
    have:=num_mono q.2.1 q.2.2 8;exact ⟨this.1,fun h => this.2 (hq.2 h)⟩
  rw [if_neg h2]
  by_cases h3 : q.1=3∨q.1=4∨q.1=5
  · rw [if_pos h3]
    have hr:=num_mono q.2.1 q.2.2 2;have ht:=tak_mono (numV q.2.1 q.2.2 2).2.1 (numV q.2.1 q.2.2 2).2.2 (numV q.2.1 q.2.2 2).1.toNat;exact ⟨Nat.le_trans ht.1 hr.1,fun h => ht.2 (hr.2 (hq.2 h))⟩
  rw [if_neg h3];exact ⟨Nat.le_refl _,hq.2⟩
theorem val_less (a : ByteArray) (f : Bool) (h : 0<a.size) : (valV a f).2.2.2.1.size<a.size:=by
  have h1:=(val_mono a f).1;rw [num_one a f h] at h1;have:=tail_size a 1;simp only at h1
  omega
abbrev IFld:=S54
theorem emp (a : ByteArray) : a.toList=([] : List UInt8)↔a.size=0:=by
 rw [ba_toList,← data_length,List.length_eq_zero_iff]
def itS : Nat→ByteArray→Option (List IVal)
 | 0,a => if a.size=0 then some [] else none
 | m + 1,a => if a.size=0 then some [] else match nxtV a with
  | none => none
  | some (v,r) => (itS m r).map (v :: ·)
def toldL (acc : List IVal) (o : Option (List IVal)) : List IVal×Bool:=match o with|some l => (acc ++ l,true)|none => ([],false)
theorem items_spec : ∀ (m : Nat) (a : ByteArray) (acc : List IVal),a.size≤m→a.size≤1048576→acc.length + a.size≤1048576→Eve (fun k => Fd.l0 k a acc) (toldL acc (itS m a)):=by
 intro m
 induction m with
 | zero =>
  intro a acc h1 h2 h3;refine Eve.succ ?_;simp only [Fd.l0,itS];have hz : a.size=0:=by omega
  rw [if_pos hz];exact Eve.ite (fun h => absurd h (by omega)) (fun _ => Eve.one.eq (by simp [toldL]))
 | succ m ih =>
  intro a acc h1 h2 h3;refine Eve.succ ?_;simp only [Fd.l0,itS]
  by_cases hz : a.size=0
  ·
   rw [if_pos hz]
   exact Eve.ite (fun h => absurd h (by omega)) (fun _ => Eve.one.eq (by simp [toldL]))
  rw [if_neg hz];refine Eve.ite (fun _ => ?_) (fun h => absurd (by omega) h);refine Eve.bind (next_tells a h2) ?_
  cases hn : nxtV a with
  | none => simp only [told,Bool.false_eq_true,if_false];exact Eve.one
  | some p =>
   obtain ⟨v,r⟩:=p;have hs:=nxt_some a v r hn;simp only [told,if_true];refine Eve.ite (fun _ => ?_) (fun h => absurd (by omega) h);refine (ih r (acc ++ [⟨v.f0,v.f1,v.f2⟩]) (by omega) (by omega) (by simp;omega)).eq ?_
   cases itS m r with
   | none => rfl
   | some l => simp [toldL]
theorem tak_size (a : ByteArray) (f : Bool) (n : Nat) (_h : a.size≤1048576) (hn : n≤65535) : (takV a f n).1.size≤1048576:=by
 unfold takV
 by_cases h2 : a.size<n
 ·
  rw [if_pos h2];simp only [zer_size];omega
 rw [if_neg h2];simp only [ByteArray.size_extract];omega
theorem val_size (a : ByteArray) (f : Bool) (h : a.size≤1048576) : (rdv (valV a f)).f2.size≤1048576:=by
 have hq:=num_mono a f 1;unfold valV;generalize numV a f 1=q at hq;simp only [rdv]
 by_cases h1 : q.1=1
 ·
  rw [if_pos h1];exact Nat.zero_le _
 rw [if_neg h1]
 by_cases h2 : q.1=2
 ·
  rw [if_pos h2];exact Nat.zero_le _
 rw [if_neg h2]
 by_cases h3 : q.1=3∨q.1=4∨q.1=5
 ·
  rw [if_pos h3]
  have hr:=num_mono q.2.1 q.2.2 2;have hn:=num2_in q.2.1 q.2.2;exact tak_size _ _ _ (by omega) (by omega)
 rw [if_neg h3];exact Nat.zero_le _
theorem items_stop (acc : List IVal) (a : ByteArray) : Eve (fun k => F8.l0 k acc a true) (acc,false):=by
 refine Eve.succ ?_;simp only [F8.l0,if_true,Bool.not_true];exact Eve.ite (fun _ => Eve.one) (fun _ => Eve.one)
theorem items_end (acc : List IVal) (a : ByteArray) (h : a.size=0) : Eve (fun k => F8.l0 k acc a false) (acc,true):=by
 refine Eve.succ ?_;simp only [F8.l0,Bool.not_false];exact Eve.ite (fun _ => Eve.one) (fun h2 => absurd ((emp a).2 h) h2)
theorem items_step (acc : List IVal) (a : ByteArray) (h : 0<a.size) (hl : acc.length≤1048576) {x : List IVal×Bool}
  (hx : Eve (fun k => F8.l0 k (acc ++ [rdv (valV a false)]) (valV a false).2.2.2.1 (valV a false).2.2.2.2) x) : Eve (fun k => F8.l0 k acc a false) x:=by
 refine Eve.succ ?_;simp only [F8.l0,Bool.false_eq_true,if_false];refine Eve.ite (fun h2 => absurd ((emp a).1 h2) (by omega)) (fun _ => ?_);refine Eve.bind (value_tells a false) ?_;exact Eve.ite (fun _ => hx) (fun h2 => absurd (by omega) h2)
theorem items_some : ∀ (m : Nat) (a : ByteArray) (acc l : List IVal),itS m a=some l→acc.length + a.size≤1048576→Eve (fun k => F8.l0 k acc a false) (acc ++ l,true):=by
 intro m
 induction m with
 | zero =>
  intro a acc l h h2;simp only [itS] at h
  by_cases hz : a.size=0
  ·
   rw [if_pos hz] at h
   obtain rfl : []=l:=by simpa using h
   exact (items_end acc a hz).eq (by simp)
  rw [if_neg hz] at h;simp at h
 | succ m ih =>
  intro a acc l h h2;simp only [itS] at h
  by_cases hz : a.size=0
  ·
   rw [if_pos hz] at h
   obtain rfl : []=l:=by simpa using h
   exact (items_end acc a hz).eq (by simp)
  rw [if_neg hz] at h
  cases hn : nxtV a with
  | none => rw [hn] at h;simp at h
  | some p =>
   obtain ⟨v,r⟩:=p;rw [hn] at h;simp only [Option.map_eq_some_iff] at h;obtain ⟨l',h',rfl⟩:=h;obtain ⟨hs,hlt⟩:=nxt_some a v r hn;refine items_step acc a (by omega) (by omega) ?_;rw [hs];refine (ih r (acc ++ [rdv (v.f0,v.f1,v.f2,r,false)]) l' h' (by simp;omega)).eq ?_;simp [rdv]
theorem items_some_end : ∀ (m : Nat) (a : ByteArray) (acc : List IVal),a.size≤m→acc.length + a.size≤1048576 → ∃ l ok,Eve (fun k => F8.l0 k acc a false) (acc ++ l,ok)∧(l.length≤a.size ∧ ∀ x ∈ l,x.f2.size≤1048576):=by
 intro m
 induction m with
 | zero => intro a acc h1 h2;exact ⟨[],true,(items_end acc a (by omega)).eq (by simp),by simp,by simp⟩
 | succ m ih =>
  intro a acc h1 h2
  by_cases hz : a.size=0
  ·
   exact ⟨[],true,(items_end acc a hz).eq (by simp),by simp,by simp⟩
  have hlt:=val_less a false (by omega);have hvs:=val_size a false (by omega)
  cases hf : (valV a false).2.2.2.2 with
  | true =>
   refine ⟨[rdv (valV a false)],false,items_step acc a (by omega) (by omega) ?_,by simp;omega,by simpa using hvs⟩;rw [hf];exact items_stop _ _
  | false =>
   obtain ⟨l,ok,hl,hl1,hl2⟩:=ih (valV a false).2.2.2.1 (acc ++ [rdv (valV a false)]) (by omega) (by simp;omega);refine ⟨rdv (valV a false) :: l,ok,items_step acc a (by omega) (by omega) ?_,by simp;omega,by simpa using ⟨hvs,hl2⟩⟩;rw [hf];exact hl.eq (by simp)
theorem items_none : ∀ (m : Nat) (a : ByteArray) (acc : List IVal),a.size≤m→itS m a=none→acc.length + a.size≤1048576 → ∃ l ok,Eve (fun k => F8.l0 k acc a false) (acc ++ l,ok)∧(ok=false ∨ ∃ v ∈ l,Bad v)∧(l.length≤a.size ∧ ∀ x ∈ l,x.f2.size≤1048576):=by
 intro m
 induction m with
 | zero =>
  intro a acc h1 h h2;simp only [itS] at h;rw [if_pos (show a.size=0 by omega)] at h;simp at h
 | succ m ih =>
  intro a acc h1 h h2;simp only [itS] at h
  by_cases hz : a.size=0
  ·
   rw [if_pos hz] at h;simp at h
  rw [if_neg hz] at h;have hlt:=val_less a false (by omega);have hvs:=val_size a false (by omega)
  cases hn : nxtV a with
  | some p =>
   obtain ⟨v,r⟩:=p;rw [hn] at h;simp only [Option.map_eq_none_iff] at h;obtain ⟨hs,hlt⟩:=nxt_some a v r hn;rw [hs] at hvs;obtain ⟨l,ok,hl,hb,hl1,hl2⟩:=ih r (acc ++ [rdv (v.f0,v.f1,v.f2,r,false)]) (by omega) h (by simp;omega);refine ⟨rdv (v.f0,v.f1,v.f2,r,false) :: l,ok,?_,?_,by simp;omega,by simpa using ⟨hvs,hl2⟩⟩
   ·
    refine items_step acc a (by omega) (by omega) ?_
    rw [hs];exact hl.eq (by simp)
   rcases hb with hb|⟨x,hx,hb⟩
   ·
    exact .inl hb
   exact .inr ⟨x,by simp [hx],hb⟩
  | none =>
   have hv:=nxt_none a hn
   cases hf : (valV a false).2.2.2.2 with
   | true =>
    refine ⟨[rdv (valV a false)],false,items_step acc a (by omega) (by omega) ?_,.inl rfl,by simp;omega,by simpa using hvs⟩;rw [hf];exact items_stop _ _
   | false =>
    rw [hf] at hv;obtain ⟨l,ok,hl,hl1,hl2⟩:=items_some_end m (valV a false).2.2.2.1 (acc ++ [rdv (valV a false)]) (by omega) (by simp;omega);refine ⟨rdv (valV a false) :: l,ok,items_step acc a (by omega) (by omega) ?_,.inr ⟨_,by simp,hv.resolve_left (by simp)⟩,by simp;omega,by simpa using ⟨hvs,hl2⟩⟩;rw [hf];exact hl.eq (by simp)
def fdS : Nat→ByteArray→Option (List IFld)
 | 0,a => if a.size=0 then some [] else none
 | m + 1,a => if a.size=0 then some [] else if (a.size : Int)<1 + bt a 0 then none else match nxtV (a.extract (1 + bt a 0).toNat a.size) with
  | none => none
  | some (v,r) => (fdS m r).map ((⟨a.extract 1 (1 + bt a 0).toNat,v⟩ : IFld) :: ·)
def toldF (acc : List IFld) (o : Option (List IFld)) : List IFld×Bool:=match o with|some l => (acc ++ l,true)|none => ([],false)
theorem wb1 (a : ByteArray) : wrap64 (1 + bt a 0)=1 + bt a 0:=w64 (by have:=bt_range a 0;omega) (by have:=bt_range a 0;omega)
theorem fields_spec : ∀ (m : Nat) (a : ByteArray) (acc : List IFld),a.size≤m→a.size≤1048576→acc.length + a.size≤1048576→Eve (fun k => Fc.l0 k a acc) (toldF acc (fdS m a)):=by
 intro m
 induction m with
 | zero =>
  intro a acc h1 h2 h3;refine Eve.succ ?_;simp only [Fc.l0,fdS];have hz : a.size=0:=by omega
  rw [if_pos hz];exact Eve.ite (fun h => absurd h (by omega)) (fun _ => Eve.one.eq (by simp [toldF]))
 | succ m ih =>
  intro a acc h1 h2 h3;refine Eve.succ ?_;simp only [Fc.l0,fdS,wbt,wb1]
  by_cases hz : a.size=0
  ·
   rw [if_pos hz]
   exact Eve.ite (fun h => absurd h (by omega)) (fun _ => Eve.one.eq (by simp [toldF]))
  rw [if_neg hz];have hb:=bt_range a 0;refine Eve.ite (fun _ => ?_) (fun h => absurd (by omega) h);refine Eve.ite (fun _ => ?_) (fun h => absurd (by omega) h);refine Eve.ite (fun h => ?_) (fun h => ?_)
  ·
   rw [if_pos h];exact Eve.one
  rw [if_neg h];refine Eve.ite (fun _ => ?_) (fun h => absurd (by omega) h);refine Eve.ite (fun _ => ?_) (fun h => absurd (by omega) h);refine Eve.ite (fun _ => ?_) (fun h => absurd (by omega) h);have ht:=tail_size a (1 + bt a 0).toNat;refine Eve.bind (next_tells _ (by omega)) ?_
  cases hn : nxtV (a.extract (1 + bt a 0).toNat a.size) with
  | none => simp only [told,Bool.false_eq_true,if_false];exact Eve.one
  | some p =>
   obtain ⟨v,r⟩:=p;have hs:=nxt_some _ v r hn;simp only [told,if_true];refine Eve.ite (fun _ => ?_) (fun h => absurd (by omega) h);refine (ih r (acc ++ [⟨a.extract 1 (1 + bt a 0).toNat,⟨v.f0,v.f1,v.f2⟩⟩]) (by omega) (by omega) (by simp;omega)).eq ?_
   cases fdS m r with
   | none => rfl
   | some l => simp [toldF]
def fdV (a : ByteArray) : ByteArray×Rd :=
 let q:=numV a false 1
 let t:=takV q.2.1 q.2.2 q.1.toNat
 (t.1,valV t.2.1 t.2.2)
def fdv (x : ByteArray×Rd) : IFld:=⟨x.1,rdv x.2⟩
theorem fields_stop (acc : List IFld) (a : ByteArray) : Eve (fun k => F5.l0 k acc a true) (acc,false):=by
 have hj : Eve (fun k => F5.j1 k acc false a true) (acc,false):=Eve.succ (by simp only [F5.j1,Bool.false_eq_true,if_false,Bool.not_true];exact Eve.one);refine Eve.succ ?_;simp only [F5.l0,Bool.not_true];exact Eve.ite (fun _ => hj) (fun _ => hj)
theorem fields_end (acc : List IFld) (a : ByteArray) (h : a.size=0) : Eve (fun k => F5.l0 k acc a false) (acc,true):=by
 refine Eve.succ ?_;simp only [F5.l0];refine Eve.ite (fun _ => Eve.succ ?_) (fun h2 => absurd ((emp a).2 h) h2);simp only [F5.j1,Bool.false_eq_true,if_false,Bool.not_false];exact Eve.one
theorem fields_step (acc : List IFld) (a : ByteArray) (h : 0<a.size) (hl : acc.length≤1048576) {x : List IFld×Bool}
  (hx : Eve (fun k => F5.l0 k (acc ++ [fdv (fdV a)]) (fdV a).2.2.2.2.1 (fdV a).2.2.2.2.2) x) : Eve (fun k => F5.l0 k acc a false) x:=by
 refine Eve.succ ?_;simp only [F5.l0,Bool.not_false];refine Eve.ite (fun h2 => absurd ((emp a).1 h2) (by omega)) (fun _ => Eve.succ ?_);simp only [F5.j1,if_true];refine Eve.bind (num_tells a false 1 (by omega)) ?_
 have hb : 0≤(numV a false 1).1∧(numV a false 1).1≤65535:=by
  rw [num_one a false h];have:=bt_range a 0;simp only;omega
 have ht:=take_tells (numV a false 1).2.1 (numV a false 1).2.2 (numV a false 1).1.toNat (by omega);rw [show (((numV a false 1).1.toNat : Nat) : Int)=(numV a false 1).1 from Int.toNat_of_nonneg hb.1] at ht;simp only [ht,Option.bind_some];refine Eve.bind (value_tells _ _) ?_;exact Eve.ite (fun _ => hx) (fun h2 => absurd (by omega) h2)
theorem fdV_less (a : ByteArray) (h : 0<a.size) : (fdV a).2.2.2.2.1.size<a.size:=by
 unfold fdV;rw [num_one a false h];simp only;have h1:=tail_size a 1;have h2:=(tak_mono (a.extract 1 a.size) false (bt a 0).toNat).1;have h3:=(val_mono (takV (a.extract 1 a.size) false (bt a 0).toNat).2.1 (takV (a.extract 1 a.size) false (bt a 0).toNat).2.2).1;have h4:=(num_mono (takV (a.extract 1 a.size) false (bt a 0).toNat).2.1 (takV (a.extract 1 a.size) false (bt a 0).toNat).2.2 1).1
 omega
theorem fdV_ok (a : ByteArray) (h : 0<a.size) (h2 : ¬ (a.size : Int)<1 + bt a 0) : fdV a=(a.extract 1 (1 + bt a 0).toNat,valV (a.extract (1 + bt a 0).toNat a.size) false):=by
 unfold fdV;rw [num_one a false h];simp only;have hb:=bt_range a 0;have ht:=tail_size a 1;have e : (1 + bt a 0).toNat=1 + (bt a 0).toNat:=by omega
 unfold takV;rw [if_neg (by omega),e];simp only;rw [ext_ext _ _ _ _ (by omega),ext_tail _ _ _ (by omega)]
theorem fdV_bad (a : ByteArray) (h : 0<a.size) (h2 : (a.size : Int)<1 + bt a 0) : (fdV a).2.2.2.2.2=true:=by
 unfold fdV;rw [num_one a false h];simp only;have hb:=bt_range a 0;have ht:=tail_size a 1;refine (val_mono _ _).2 ?_;unfold takV;rw [if_pos (by omega)]
theorem fields_some : ∀ (m : Nat) (a : ByteArray) (acc l : List IFld),fdS m a=some l→acc.length + a.size≤1048576→Eve (fun k => F5.l0 k acc a false) (acc ++ l,true):=by
 intro m
 induction m with
 | zero =>
  intro a acc l h h2;simp only [fdS] at h
  by_cases hz : a.size=0
  ·
   rw [if_pos hz] at h
   obtain rfl : []=l:=by simpa using h
   exact (fields_end acc a hz).eq (by simp)
  rw [if_neg hz] at h;simp at h
 | succ m ih =>
  intro a acc l h h2;simp only [fdS] at h
  by_cases hz : a.size=0
  ·
   rw [if_pos hz] at h
   obtain rfl : []=l:=by simpa using h
   exact (fields_end acc a hz).eq (by simp)
  rw [if_neg hz] at h
  by_cases hy : (a.size : Int)<1 + bt a 0
  ·
   rw [if_pos hy] at h;simp at h
  rw [if_neg hy] at h
  cases hn : nxtV (a.extract (1 + bt a 0).toNat a.size) with
  | none => rw [hn] at h;simp at h
  | some p =>
   obtain ⟨v,r⟩:=p;rw [hn] at h;simp only [Option.map_eq_some_iff] at h;obtain ⟨l',h',rfl⟩:=h;obtain ⟨hs,hlt⟩:=nxt_some _ v r hn;have ht:=tail_size a (1 + bt a 0).toNat;have hb:=bt_range a 0;refine fields_step acc a (by omega) (by omega) ?_;rw [fdV_ok a (by omega) hy,hs];refine (ih r (acc ++ [fdv (a.extract 1 (1 + bt a 0).toNat,(v.f0,v.f1,v.f2,r,false))]) l' h' (by simp;omega)).eq ?_;simp [fdv,rdv]
theorem fdV_size (a : ByteArray) (h : 0<a.size) (h2 : a.size≤1048576) : (fdv (fdV a)).f0.size≤1048576∧(fdv (fdV a)).f1.f2.size≤1048576:=by
 unfold fdV fdv;rw [num_one a false h];have hb:=bt_range a 0;have ht:=tail_size a 1;have hm:=(tak_mono (a.extract 1 a.size) false (bt a 0).toNat).1;exact ⟨tak_size (a.extract 1 a.size) false (bt a 0).toNat (by omega) (by omega),val_size (takV (a.extract 1 a.size) false (bt a 0).toNat).2.1 (takV (a.extract 1 a.size) false (bt a 0).toNat).2.2 (by omega)⟩
theorem fields_some_end : ∀ (m : Nat) (a : ByteArray) (acc : List IFld),a.size≤m→acc.length + a.size≤1048576 → ∃ l ok,Eve (fun k => F5.l0 k acc a false) (acc ++ l,ok)∧(l.length≤a.size ∧ ∀ x ∈ l,x.f0.size≤1048576∧x.f1.f2.size≤1048576):=by
 intro m
 induction m with
 | zero => intro a acc h1 h2;exact ⟨[],true,(fields_end acc a (by omega)).eq (by simp),by simp,by simp⟩
 | succ m ih =>
  intro a acc h1 h2
  by_cases hz : a.size=0
  ·
   exact ⟨[],true,(fields_end acc a hz).eq (by simp),by simp,by simp⟩
  have hlt:=fdV_less a (by omega);have hvs:=fdV_size a (by omega) (by omega)
  cases hf : (fdV a).2.2.2.2.2 with
  | true =>
   refine ⟨[fdv (fdV a)],false,fields_step acc a (by omega) (by omega) ?_,by simp;omega,by simpa using hvs⟩;rw [hf];exact fields_stop _ _
  | false =>
   obtain ⟨l,ok,hl,hl1,hl2⟩:=ih (fdV a).2.2.2.2.1 (acc ++ [fdv (fdV a)]) (by omega) (by simp;omega);refine ⟨fdv (fdV a) :: l,ok,fields_step acc a (by omega) (by omega) ?_,by simp;omega,by simpa using ⟨hvs,hl2⟩⟩;rw [hf];exact hl.eq (by simp)
theorem fields_none : ∀ (m : Nat) (a : ByteArray) (acc : List IFld),a.size≤m→fdS m a=none→acc.length + a.size≤1048576 → ∃ l ok,Eve (fun k => F5.l0 k acc a false) (acc ++ l,ok)∧(ok=false ∨ ∃ v ∈ l,Bad v.f1)∧(l.length≤a.size ∧ ∀ x ∈ l,x.f0.size≤1048576∧x.f1.f2.size≤1048576):=by
 intro m
 induction m with
 | zero =>
  intro a acc h1 h h2;simp only [fdS] at h;rw [if_pos (show a.size=0 by omega)] at h;simp at h
 | succ m ih =>
  intro a acc h1 h h2;simp only [fdS] at h
  by_cases hz : a.size=0
  ·
   rw [if_pos hz] at h;simp at h
  rw [if_neg hz] at h;have hlt:=fdV_less a (by omega);have hvs:=fdV_size a (by omega) (by omega)
  by_cases hy : (a.size : Int)<1 + bt a 0
  ·
   refine ⟨[fdv (fdV a)],false,fields_step acc a (by omega) (by omega) ?_,.inl rfl,by simp;omega,by simpa using hvs⟩
   rw [fdV_bad a (by omega) hy];exact fields_stop _ _
  rw [if_neg hy] at h;have ht:=tail_size a (1 + bt a 0).toNat;have hb0:=bt_range a 0;have hok:=fdV_ok a (by omega) hy
  cases hn : nxtV (a.extract (1 + bt a 0).toNat a.size) with
  | some p =>
   obtain ⟨v,r⟩:=p;rw [hn] at h;simp only [Option.map_eq_none_iff] at h;obtain ⟨hs,hlt⟩:=nxt_some _ v r hn;rw [hok,hs] at hvs;obtain ⟨l,ok,hl,hb,hl1,hl2⟩:=ih r (acc ++ [fdv (a.extract 1 (1 + bt a 0).toNat,(v.f0,v.f1,v.f2,r,false))]) (by omega) h (by simp;omega);refine ⟨fdv (a.extract 1 (1 + bt a 0).toNat,(v.f0,v.f1,v.f2,r,false)) :: l,ok,?_,?_,by simp;omega,by simpa using ⟨hvs,hl2⟩⟩
   ·
    refine fields_step acc a (by omega) (by omega) ?_
    rw [hok,hs];exact hl.eq (by simp)
   rcases hb with hb|⟨x,hx,hb⟩
   ·
    exact .inl hb
   exact .inr ⟨x,by simp [hx],hb⟩
  | none =>
   have hv:=nxt_none _ hn
   cases hf : (fdV a).2.2.2.2.2 with
   | true =>
    refine ⟨[fdv (fdV a)],false,fields_step acc a (by omega) (by omega) ?_,.inl rfl,by simp;omega,by simpa using hvs⟩;rw [hf];exact fields_stop _ _
   | false =>
    obtain ⟨l,ok,hl,hl1,hl2⟩:=fields_some_end m (fdV a).2.2.2.2.1 (acc ++ [fdv (fdV a)]) (by omega) (by simp;omega);refine ⟨fdv (fdV a) :: l,ok,fields_step acc a (by omega) (by omega) ?_,.inr ⟨fdv (fdV a),by simp,?_⟩,by simp;omega,by simpa using ⟨hvs,hl2⟩⟩
    ·
     rw [hf]
     exact hl.eq (by simp)
    have e1 : (fdV a).2=valV (a.extract (1 + bt a 0).toNat a.size) false:=by rw [hok]
    have e2 : (fdv (fdV a)).f1=rdv (fdV a).2:=rfl;rw [e2,e1];rw [e1] at hf;rcases hv with hv|hv
    ·
     rw [hf] at hv;cases hv
    exact hv
def isL (c : Int) : Bool:=(decide (97≤c) && decide (c≤122)) || (decide (65≤c) && decide (c≤90)) || (c == 95)
def isD (c : Int) : Bool:=decide (48≤c) && decide (c≤57)
theorem specL (c : Int) : F03.f c=some (isL c):=by
 unfold F03.f isL
 split <;> split <;> (try split) <;> (try split) <;> simp <;> omega
theorem implL (c : Int) : F06.f c=some (isL c):=by
 unfold F06.f isL
 split <;> split <;> (try split) <;> (try split) <;> simp <;> omega
theorem specD (c : Int) : F07.f c=some (isD c):=by
 unfold F07.f isD
 split <;> simp <;> omega
theorem implD (c : Int) : F04.f c=some (isD c):=by
 unfold F04.f isD
 split <;> simp <;> omega
def wgo (first : Bool) : List Int→Bool
 | [] => true
 | c :: cs => (isL c || (isD c && !first)) && wgo false cs
def word (s : ByteArray) : Bool:=wgo true (bytesOf s) && (decide (1≤(s.size : Int)) && decide ((s.size : Int)≤40))
theorem word_spec (s : ByteArray) (hs : s.size≤1048576) : Eve (fun k => F7.f k s) (word s):=by
 have hn : (bytesOf s).length=s.size:=bytesOf_length s;have hj : Eve (fun k => F7.j0 k s true) false:=Eve.succ (by simp only [F7.j0,if_true];exact Eve.one);simp only [F7.f];refine Eve.ite (fun h => hj.eq ?_) (fun h => ?_)
 ·
  have : decide (1≤(s.size : Int))=false:=by simp;omega
  simp [word,this]
 refine Eve.ite (fun h2 => hj.eq ?_) (fun h2 => ?_)
 ·
  have : decide ((s.size : Int)≤40)=false:=by simp;omega
  simp [word,this]
 refine Eve.ite (fun _ => ?_) (fun h => absurd (by omega) h)
 have hw : word s=wgo true (bytesOf s):=by
  have a1 : decide (1≤(s.size : Int))=true:=by simp;omega
  have a2 : decide ((s.size : Int)≤40)=true:=by simp;omega
  simp [word,a1,a2]
 have hb:=bt_get s 0 (by omega);simp only [show ((0 : Nat) : Int)=0 from rfl] at hb;have hc : bytesOf s=bt s 0 :: (bytesOf s).drop 1:=by rw [hb];exact drop_at (bytesOf s) 0 (by omega)
 simp only [specL,Option.bind_some]
 cases hl : isL (bt s 0) with
 | false =>
  refine hj.eq ?_;rw [hw,hc];simp [wgo,hl]
 | true =>
  refine Eve.succ ?_;simp only [F7.j0,Bool.not_true,Bool.false_eq_true,if_false]
  have:=ev_loop (bytesOf s) (fun k (_ : Unit) i => F7.l0 k s i) (fun _ _ r => wgo false r) (fun i _ => 1≤i) (fun _ _ => by
   simp only [F7.l0]
   exact Eve.ite (fun h => absurd h (by omega)) (fun _ => Eve.one)) (fun i hi _ hI ih => by
   have hnx:=ih () (by omega);simp only [F7.l0,specL,specD,Option.bind_some,wi (show i≤9223372036854775806 by omega),bt_get s i hi];refine Eve.ite (fun _ => ?_) (fun h => absurd (by omega) h);refine Eve.ite (fun _ => ?_) (fun h => absurd (by omega) h);refine Eve.ite (fun h1 => hnx.eq (by simp [wgo,h1])) (fun h1 => ?_)
   exact Eve.ite (fun h2 => hnx.eq (by simp [wgo,h2])) (fun h2 => Eve.one.eq (by simp [wgo,h1,h2]))) ((bytesOf s).length - 1) 1 () (by omega) (by omega)
  refine this.eq ?_;rw [hw]
  conv => rhs;rw [hc]
  simp [wgo,hl]
theorem word_impl (s : ByteArray) (hs : s.size≤1048576) : Eve (fun k => Fg.f k s) (word s):=by
 have hn : (bytesOf s).length=s.size:=bytesOf_length s;simp only [Fg.f];refine ev_loop0 (bytesOf s) (fun k (_ : Unit) i => Fg.l0 k s (s.size : Int) i) (fun i _ r => wgo (decide (i=0)) r && (decide (1≤(s.size : Int)) && decide ((s.size : Int)≤40))) (fun _ _ => True) (fun _ _ => ?_) (fun i hi _ _ ih => ?_) () trivial
 ·
  simp only [Fg.l0]
  refine Eve.ite (fun h => absurd h (by omega)) (fun _ => Eve.all fun k => ?_);unfold Fx.f
  by_cases h : 1≤(s.size : Int)
  ·
   rw [if_pos h];simp [wgo,h]
  rw [if_neg h];simp [wgo,h]
 have hnx:=ih () trivial;simp only [Nat.add_one_ne_zero,decide_false] at hnx;simp only [Fg.l0,implL,implD,Option.bind_some,wi (show i≤9223372036854775806 by omega),bt_get s i hi];refine Eve.ite (fun _ => ?_) (fun h => absurd (by omega) h);refine Eve.ite (fun _ => ?_) (fun h => absurd (by omega) h);refine Eve.ite (fun _ => ?_) (fun h => absurd (by omega) h);refine Eve.ite (fun h1 => hnx.eq (by simp [wgo,h1])) (fun h1 => ?_);refine Eve.ite (fun h2 => ?_) (fun h2 => Eve.one.eq (by simp [wgo,h1,h2]));refine Eve.ite (fun h3 => Eve.one.eq ?_) (fun h3 => hnx.eq ?_)
 ·
  obtain rfl : i=0:=by omega
  simp [wgo,h1]
 have : ¬ i=0:=by omega
 simp [wgo,h2,this]
def nam (s : ByteArray) : Bool:=word s && decide ((s.size : Int)≤12)
theorem nam_spec (s : ByteArray) (hs : s.size≤1048576) : Eve (fun k => Fp.f k s) (nam s):=by
 simp only [Fp.f,F01.f];refine Eve.bind (v:=word s) (Eve.bind (word_spec s hs) Eve.one) ?_;refine Eve.ite (fun h => Eve.one.eq (by simp [nam,h])) (fun h => Eve.one.eq (by simp [nam,h]))
theorem nam_impl (s : ByteArray) (hs : s.size≤1048576) : Eve (fun k => Fo.f k s) (nam s):=by
 simp only [Fo.f];refine Eve.ite (fun h => (Eve.bind (word_impl s hs) Eve.one).eq (by simp [nam,h])) (fun h => Eve.one.eq (by simp [nam,h]))
def nms : Option ByteArray→List IFld→Bool
 | _,[] => true
 | p,f :: fs => nam f.f0 && ((match p with|none => true|some q => Op.bytesLess q.toList f.f0.toList) && nms (some f.f0) fs)
def inr (a b c : Int) : Bool:=decide (b≤a) && decide (a≤c)
theorem in_spec (a b c : Int) : F02.f a b c=some (inr a b c):=by
 unfold F02.f inr
 by_cases h : b≤a
 ·
  rw [if_pos h];simp [h]
 rw [if_neg h];simp [h]
theorem in_impl (a b c : Int) : Fx.f a b c=some (inr a b c):=in_spec a b c
abbrev emB (a : ByteArray) : Bool:=a.toList == ([] : List UInt8)
def flat (v : IVal) : Bool :=
 if v.f0=0 then decide (v.f1=0) && emB v.f2
 else if v.f0=1 then inr v.f1 0 1 && emB v.f2
 else if v.f0=2 then inr v.f1 (-1000000000000) 1000000000000 && emB v.f2
 else if v.f0=3 then decide (v.f1=0) && decide ((v.f2.size : Int)≤300)
 else false
def rightV : Nat→IVal→Bool
 | 0,v => flat v
 | d + 1,v =>
  if v.f0=4 then decide (v.f1=0) && (decide ((v.f2.size : Int)≤300) && (match itS v.f2.size v.f2 with|some l => l.all (rightV d)|none => false))
  else if v.f0=5 then decide (v.f1=0) && (decide ((v.f2.size : Int)≤300) && (match fdS v.f2.size v.f2 with|some l => nms none l && l.all (fun f => rightV d f.f1)|none => false))
  else flat v
theorem bad_right (v : IVal) (h : Bad v) : ∀ d,rightV d v=false:=by
 have hf : flat v=false:=by
  unfold flat;rcases h with h|h|⟨h,h2⟩
  ·
   rw [if_neg (by omega),if_neg (by omega),if_neg (by omega),if_neg (by omega)]
  ·
   rw [if_neg (by omega),if_neg (by omega),if_neg (by omega),if_neg (by omega)]
  rw [if_neg (by omega),if_neg (by omega),if_pos h];have : inr v.f1 (-1000000000000) 1000000000000=false:=by unfold inr;simp;omega
  rw [this];rfl
 intro d
 cases d with
 | zero => exact hf
 | succ d =>
  unfold rightV;rcases h with h|h|⟨h,h2⟩
  ·
   rw [if_neg (by omega),if_neg (by omega)];exact hf
  ·
   rw [if_neg (by omega),if_neg (by omega)];exact hf
  rw [if_neg (by omega),if_neg (by omega)];exact hf
theorem rdV (l : List IVal) (i : Nat) (h : i<l.length) : rd_T27 l (i : Int)=l[i]:=getD_at _ l i h
theorem rdF (l : List IFld) (i : Nat) (h : i<l.length) : rd_T54 l (i : Int)=l[i]:=getD_at _ l i h
theorem its_size : ∀ (m : Nat) (a : ByteArray) (l : List IVal),itS m a=some l→a.size≤1048576→l.length≤a.size ∧ ∀ x ∈ l,x.f2.size≤1048576:=by
 intro m
 induction m with
 | zero =>
  intro a l h h2;simp only [itS] at h
  by_cases hz : a.size=0
  ·
   rw [if_pos hz] at h
   obtain rfl : []=l:=by simpa using h
   simp
  rw [if_neg hz] at h;simp at h
 | succ m ih =>
  intro a l h h2;simp only [itS] at h
  by_cases hz : a.size=0
  ·
   rw [if_pos hz] at h
   obtain rfl : []=l:=by simpa using h
   simp
  rw [if_neg hz] at h
  cases hn : nxtV a with
  | none => rw [hn] at h;simp at h
  | some p =>
   obtain ⟨v,r⟩:=p;rw [hn] at h;simp only [Option.map_eq_some_iff] at h;obtain ⟨l',h',rfl⟩:=h;obtain ⟨hs,hlt⟩:=nxt_some a v r hn;have hv:=val_size a false h2;rw [hs] at hv;obtain ⟨i1,i2⟩:=ih r l' h' (by omega);refine ⟨by simp;omega,fun x hx => ?_⟩;rcases List.mem_cons.1 hx with rfl|hx
   ·
    exact hv
   exact i2 x hx
theorem fds_size : ∀ (m : Nat) (a : ByteArray) (l : List IFld),fdS m a=some l→a.size≤1048576→l.length≤a.size ∧ ∀ x ∈ l,x.f0.size≤1048576∧x.f1.f2.size≤1048576:=by
 intro m
 induction m with
 | zero =>
  intro a l h h2;simp only [fdS] at h
  by_cases hz : a.size=0
  ·
   rw [if_pos hz] at h
   obtain rfl : []=l:=by simpa using h
   simp
  rw [if_neg hz] at h;simp at h
 | succ m ih =>
  intro a l h h2;simp only [fdS] at h
  by_cases hz : a.size=0
  ·
   rw [if_pos hz] at h
   obtain rfl : []=l:=by simpa using h
   simp
  rw [if_neg hz] at h
  by_cases hy : (a.size : Int)<1 + bt a 0
  ·
   rw [if_pos hy] at h;simp at h
  rw [if_neg hy] at h;have ht:=tail_size a (1 + bt a 0).toNat;have hb:=bt_range a 0
  cases hn : nxtV (a.extract (1 + bt a 0).toNat a.size) with
  | none => rw [hn] at h;simp at h
  | some p =>
   obtain ⟨v,r⟩:=p;rw [hn] at h;simp only [Option.map_eq_some_iff] at h;obtain ⟨l',h',rfl⟩:=h;obtain ⟨hs,hlt⟩:=nxt_some _ v r hn;have hv:=val_size (a.extract (1 + bt a 0).toNat a.size) false (by omega);rw [hs] at hv;obtain ⟨i1,i2⟩:=ih r l' h' (by omega);refine ⟨by simp;omega,fun x hx => ?_⟩;rcases List.mem_cons.1 hx with rfl|hx
   ·
    exact ⟨by simp only [ByteArray.size_extract];omega,hv⟩
   exact i2 x hx
theorem dn (d : Nat) (h : d≤1000) : wrap64 (((d + 1 : Nat) : Int) - 1)=(d : Int):=by rw [w64 (by omega) (by omega)];omega
theorem spec_flat (v : IVal) (e : Int) (h4 : v.f0≠4) (h5 : v.f0≠5) : Eve (fun k => F0.f k v.f0 v.f1 v.f2 e) (flat v):=by
 refine Eve.succ ?_;simp only [F0.f,in_spec,Option.bind_some];unfold flat;refine Eve.ite (fun h => ?_) (fun h => ?_)
 ·
  rw [if_pos h]
  exact Eve.ite (fun h => Eve.one.eq (by simp [h])) (fun h => Eve.one.eq (by simp [h]))
 rw [if_neg h];refine Eve.ite (fun h => ?_) (fun h => ?_)
 ·
  rw [if_pos h]
  exact Eve.ite (fun h => Eve.one.eq (by simp [h])) (fun h => Eve.one.eq (by simp [h]))
 rw [if_neg h];refine Eve.ite (fun h => ?_) (fun h => ?_)
 ·
  rw [if_pos h]
  exact Eve.ite (fun h => Eve.one.eq (by simp [h])) (fun h => Eve.one.eq (by simp [h]))
 rw [if_neg h];refine Eve.ite (fun h => ?_) (fun h => ?_)
 ·
  rw [if_pos h]
  exact Eve.ite (fun h => Eve.one.eq (by simp [h])) (fun h => Eve.one.eq (by simp [h]))
 rw [if_neg h];refine Eve.ite (fun h => absurd h h4) (fun _ => ?_);exact Eve.ite (fun h => absurd h h5) (fun _ => Eve.one)
theorem impl_flat (v : IVal) (e : Int) (h4 : v.f0≠4) (h5 : v.f0≠5) : Eve (fun k => F4.f k v.f0 v.f1 v.f2 e) (flat v):=by
 refine Eve.succ ?_;simp only [F4.f,F08.f,in_impl,Option.bind_some];unfold flat;refine Eve.ite (fun h => ?_) (fun h => ?_)
 ·
  rw [if_pos h]
  exact Eve.one.eq (by rw [h];by_cases h1 : v.f1=0 <;> simp [h1])
 rw [if_neg h];refine Eve.ite (fun h => ?_) (fun h => ?_)
 ·
  rw [if_pos h]
  exact Eve.ite (fun h => Eve.one.eq (by simp [h])) (fun h => Eve.one.eq (by simp [h]))
 rw [if_neg h];refine Eve.ite (fun h => ?_) (fun h => ?_)
 ·
  rw [if_pos h]
  exact Eve.ite (fun h => Eve.one.eq (by simp [h])) (fun h => Eve.one.eq (by simp [h]))
 rw [if_neg h];refine Eve.ite (fun h => ?_) (fun h => ?_)
 ·
  rw [if_pos h]
  exact Eve.ite (fun h => Eve.one.eq (by simp [h])) (fun h => Eve.one.eq (by simp [h]))
 rw [if_neg h];refine Eve.ite (fun h => absurd h h4) (fun _ => ?_);have : (v.f0 == 5)=false:=by simpa using h5
 simp only [this];refine Eve.succ ?_;simp only [F4.j0,Bool.false_eq_true,if_false];exact Eve.one
theorem spec_j0_true (e : Int) (l : List IVal) : Eve (fun k => F0.j0 k e l true) false:=Eve.succ (by simp only [F0.j0,if_true];exact Eve.one)
theorem spec_j2_true (e : Int) (l : List IFld) : Eve (fun k => F0.j2 k e l true) false:=Eve.succ (by simp only [F0.j2,if_true];exact Eve.one)
theorem right_spec : ∀ (d : Nat) (v : IVal),d≤1000→v.f2.size≤1048576→Eve (fun k => F0.f k v.f0 v.f1 v.f2 (d : Int)) (rightV d v):=by
 intro d
 induction d with
 | zero =>
  intro v hd hs
  by_cases h4 : v.f0=4
  ·
   have hf : flat v=false:=by unfold flat;rw [if_neg (by omega),if_neg (by omega),if_neg (by omega),if_neg (by omega)]
   show Eve _ (flat v);rw [hf];refine Eve.succ ?_;simp only [F0.f,h4];simp only [show ¬ (4 : Int)=0 by omega,show ¬ (4 : Int)=1 by omega,show ¬ (4 : Int)=2 by omega,show ¬ (4 : Int)=3 by omega,if_false,if_true];simp only [Fd.f];refine Eve.bind (items_spec _ v.f2 [] (Nat.le_refl _) hs (by simp;omega)) ?_;have hj:=spec_j0_true ((0 : Nat) : Int) (toldL [] (itS v.f2.size v.f2)).1;refine Eve.ite (fun _ => ?_) (fun _ => hj);refine Eve.ite (fun _ => ?_) (fun _ => hj);exact Eve.ite (fun _ => hj) (fun _ => hj)
  by_cases h5 : v.f0=5
  ·
   have hf : flat v=false:=by unfold flat;rw [if_neg (by omega),if_neg (by omega),if_neg (by omega),if_neg (by omega)]
   show Eve _ (flat v);rw [hf];refine Eve.succ ?_;simp only [F0.f,h5];simp only [show ¬ (5 : Int)=0 by omega,show ¬ (5 : Int)=1 by omega,show ¬ (5 : Int)=2 by omega,show ¬ (5 : Int)=3 by omega,show ¬ (5 : Int)=4 by omega,if_false,if_true];simp only [Fc.f];refine Eve.bind (fields_spec _ v.f2 [] (Nat.le_refl _) hs (by simp;omega)) ?_;have hj:=spec_j2_true ((0 : Nat) : Int) (toldF [] (fdS v.f2.size v.f2)).1;refine Eve.ite (fun _ => ?_) (fun _ => hj);refine Eve.ite (fun _ => ?_) (fun _ => hj);exact Eve.ite (fun _ => hj) (fun _ => hj)
  exact spec_flat v _ h4 h5
 | succ d ih =>
  intro v hd hs;have he : (((d + 1 : Nat) : Int) == 0)=false:=by simp;omega
  by_cases h4 : v.f0=4
  ·
   unfold rightV
   rw [if_pos h4];refine Eve.succ ?_;simp only [F0.f,h4];simp only [show ¬ (4 : Int)=0 by omega,show ¬ (4 : Int)=1 by omega,show ¬ (4 : Int)=2 by omega,show ¬ (4 : Int)=3 by omega,if_false,if_true];simp only [Fd.f];refine Eve.bind (items_spec _ v.f2 [] (Nat.le_refl _) hs (by simp;omega)) ?_;have hj:=spec_j0_true ((d + 1 : Nat) : Int) (toldL [] (itS v.f2.size v.f2)).1;refine Eve.ite (fun h1 => ?_) (fun h1 => hj.eq (by simp [h1]))
   cases hi : itS v.f2.size v.f2 with
   | none =>
    rw [hi] at hj;simp only [toldL,Bool.false_eq_true,if_false];exact hj.eq (by simp)
   | some l =>
    rw [hi] at hj;simp only [toldL,if_true,List.nil_append] at hj ⊢;refine Eve.ite (fun h2 => hj.eq ?_) (fun h2 => ?_)
    ·
     have : decide ((v.f2.size : Int)≤300)=false:=by simp;omega
     simp [this]
    obtain ⟨hl1,hl2⟩:=its_size _ _ l hi hs;have hsz : decide ((v.f2.size : Int)≤300)=true:=by simp;omega
    simp only [he];refine Eve.succ ?_;simp only [F0.j0,Bool.false_eq_true,if_false]
    have:=ev_loop0 l (fun k (_ : Unit) i => F0.l0 k ((d + 1 : Nat) : Int) l i) (fun _ _ r => r.all (rightV d)) (fun _ _ => True) (fun _ _ => by
     simp only [F0.l0]
     exact Eve.ite (fun h => absurd h (by omega)) (fun _ => Eve.one)) (fun i hi _ _ ih2 => by
     simp only [F0.l0];refine Eve.ite (fun _ => ?_) (fun h => absurd (by omega) h);refine Eve.ite (fun _ => ?_) (fun h => absurd (by omega) h);simp only [rdV l i hi,dn d (by omega),wi (show i≤9223372036854775806 by omega)];refine Eve.bind (ih l[i] (by omega) (hl2 _ (List.getElem_mem hi))) ?_
     exact Eve.ite (fun h => (ih2 () trivial).eq (by rw [List.all_cons,h,Bool.true_and])) (fun h => Eve.one.eq (by rw [List.all_cons,Bool.eq_false_iff.mpr h,Bool.false_and]))) () trivial
    exact this.eq (by simp [h1,hsz])
  by_cases h5 : v.f0=5
  ·
   unfold rightV
   rw [if_neg h4,if_pos h5];refine Eve.succ ?_;simp only [F0.f,h5];simp only [show ¬ (5 : Int)=0 by omega,show ¬ (5 : Int)=1 by omega,show ¬ (5 : Int)=2 by omega,show ¬ (5 : Int)=3 by omega,show ¬ (5 : Int)=4 by omega,if_false,if_true];simp only [Fc.f];refine Eve.bind (fields_spec _ v.f2 [] (Nat.le_refl _) hs (by simp;omega)) ?_;have hj:=spec_j2_true ((d + 1 : Nat) : Int) (toldF [] (fdS v.f2.size v.f2)).1;refine Eve.ite (fun h1 => ?_) (fun h1 => hj.eq (by simp [h1]))
   cases hi : fdS v.f2.size v.f2 with
   | none =>
    rw [hi] at hj;simp only [toldF,Bool.false_eq_true,if_false];exact hj.eq (by simp)
   | some l =>
    rw [hi] at hj;simp only [toldF,if_true,List.nil_append] at hj ⊢;refine Eve.ite (fun h2 => hj.eq ?_) (fun h2 => ?_)
    ·
     have : decide ((v.f2.size : Int)≤300)=false:=by simp;omega
     simp [this]
    obtain ⟨hl1,hl2⟩:=fds_size _ _ l hi hs;have hsz : decide ((v.f2.size : Int)≤300)=true:=by simp;omega
    simp only [he];refine Eve.succ ?_;simp only [F0.j2,Bool.false_eq_true,if_false]
    have:=ev_loop0 l (fun k (_ : Unit) i => F0.l1 k ((d + 1 : Nat) : Int) l i) (fun i _ r => nms (if i=0 then none else some (l.getD (i - 1) z54).f0) r && r.all (fun f => rightV d f.f1)) (fun _ _ => True) (fun _ _ => by
     simp only [F0.l1]
     exact Eve.ite (fun h => absurd h (by omega)) (fun _ => Eve.one.eq (by simp [nms]))) (fun i hi _ _ ih2 => by
     have hnx:=ih2 () trivial;simp only [Nat.add_one_ne_zero,if_false,Nat.add_sub_cancel,List.getD_eq_getElem?_getD,List.getElem?_eq_getElem hi,Option.getD_some] at hnx;simp only [F0.l1];refine Eve.ite (fun _ => ?_) (fun h => absurd (by omega) h);refine Eve.ite (fun _ => ?_) (fun h => absurd (by omega) h);have hm:=hl2 _ (List.getElem_mem hi);simp only [rdF l i hi,dn d (by omega),wi (show i≤9223372036854775806 by omega)];refine Eve.bind (nam_spec _ hm.1) ?_;refine Eve.ite (fun hn => ?_) (fun hn => Eve.one.eq (by simp [nms,hn]));refine Eve.ite (fun h3 => ?_) (fun h3 => ?_)
     ·
      have hw : wrap64 ((i : Int) - 1)=((i - 1 : Nat) : Int):=by rw [w64 (by omega) (by omega)];omega
      simp only [hw];refine Eve.ite (fun _ => ?_) (fun h => absurd (by omega) h);refine Eve.ite (fun _ => ?_) (fun h => absurd (by omega) h);rw [if_neg (by omega),List.getD_eq_getElem?_getD,List.getElem?_eq_getElem (show i - 1<l.length by omega),Option.getD_some];simp only [rdF l (i - 1) (show i - 1<l.length by omega)];refine Eve.ite (fun h6 => ?_) (fun h6 => Eve.one.eq (by simp [nms,h6]));refine Eve.bind (ih l[i].f1 (by omega) hm.2) ?_;exact Eve.ite (fun h => hnx.eq (by simp only [nms,hn,h6,List.all_cons,h,Bool.true_and])) (fun h => Eve.one.eq (by rw [List.all_cons,Bool.eq_false_iff.mpr h,Bool.false_and,Bool.and_false]))
     obtain rfl : i=0:=by omega
     rw [if_pos rfl];refine Eve.bind (ih l[0].f1 (by omega) hm.2) ?_
     exact Eve.ite (fun h => hnx.eq (by simp [nms,hn,h])) (fun h => Eve.one.eq (by simp [h]))) () trivial
    rw [if_pos rfl] at this;exact this.eq (by simp [h1,hsz])
  unfold rightV;rw [if_neg h4,if_neg h5];exact spec_flat v _ h4 h5
theorem nxt_cases (a : ByteArray) (v : IVal) (r : ByteArray) (h : nxtV a=some (v,r)) : ∃ n,n≤a.size∧0<n∧r=a.extract n a.size∧v.f0=bt a 0 ∧
  ((v.f0=0∧n=1)∨(v.f0=1∧n=2∧v.f1=bt a 1)∨(v.f0=2∧n=9∧bt a 1≤127∧v.f1=wrap64 (bigV (bytesOf (a.extract 1 9)) - 4611686018427387904)) ∨
   (3≤v.f0∧v.f0≤5∧n=3 + v.f2.size∧bigV (bytesOf (a.extract 1 3))=v.f2.size∧v.f2=a.extract 3 n)):=by
 unfold nxtV at h
 by_cases hs : a.size=0
 ·
  rw [if_pos hs] at h;cases h
 rw [if_neg hs] at h
 by_cases h0 : bt a 0=0
 ·
  rw [if_pos h0,Option.some.injEq,Prod.mk.injEq] at h
  obtain ⟨rfl,rfl⟩:=h;exact ⟨1,by omega,by omega,rfl,h0.symm,.inl ⟨rfl,rfl⟩⟩
 rw [if_neg h0] at h
 by_cases h1 : bt a 0=1
 ·
  rw [if_pos h1] at h
  by_cases h2 : a.size<2
  ·
   rw [if_pos h2] at h;cases h
  rw [if_neg h2,Option.some.injEq,Prod.mk.injEq] at h;obtain ⟨rfl,rfl⟩:=h;exact ⟨2,by omega,by omega,rfl,h1.symm,.inr (.inl ⟨rfl,rfl,rfl⟩)⟩
 rw [if_neg h1] at h
 by_cases h2 : bt a 0=2
 ·
  rw [if_pos h2] at h
  by_cases h3 : a.size<9
  ·
   rw [if_pos h3] at h;cases h
  rw [if_neg h3] at h
  by_cases h4 : bt a 1 > 127
  ·
   rw [if_pos h4] at h;cases h
  rw [if_neg h4,Option.some.injEq,Prod.mk.injEq] at h;obtain ⟨rfl,rfl⟩:=h;exact ⟨9,by omega,by omega,rfl,h2.symm,.inr (.inr (.inl ⟨rfl,rfl,by omega,rfl⟩))⟩
 rw [if_neg h2] at h
 by_cases h3 : bt a 0=3∨bt a 0=4∨bt a 0=5
 ·
  rw [if_pos h3] at h
  by_cases h4 : a.size<3
  ·
   rw [if_pos h4] at h;cases h
  rw [if_neg h4] at h
  by_cases h5 : (a.size : Int)<3 + bigV (bytesOf (a.extract 1 3))
  ·
   rw [if_pos h5] at h;cases h
  rw [if_neg h5,Option.some.injEq,Prod.mk.injEq] at h;obtain ⟨rfl,rfl⟩:=h;have hb : 0≤bigV (bytesOf (a.extract 1 3)):=(bytes_ext2 a 1 (by omega)).1
  have hz : (a.extract 3 (3 + bigV (bytesOf (a.extract 1 3))).toNat).size=(bigV (bytesOf (a.extract 1 3))).toNat:=by
   rw [ByteArray.size_extract];omega
  refine ⟨(3 + bigV (bytesOf (a.extract 1 3))).toNat,by omega,by omega,rfl,rfl,.inr (.inr (.inr ⟨?_,?_,?_,?_,rfl⟩))⟩
  ·
   show 3≤bt a 0;omega
  ·
   show bt a 0≤5;omega
  ·
   show _=3 + (a.extract 3 (3 + bigV (bytesOf (a.extract 1 3))).toNat).size
   rw [hz];omega
  show _=(((a.extract 3 (3 + bigV (bytesOf (a.extract 1 3))).toNat).size : Nat) : Int);rw [hz];omega
 rw [if_neg h3] at h;cases h
theorem str_app (a b : List Int) : strOfNums (a ++ b)=strOfNums a ++ strOfNums b:=by
 apply ba_ext;rw [ba_toList,ba_toList,ByteArray.data_append,Array.toList_append,strOfNums_data,strOfNums_data,strOfNums_data,List.map_append]
theorem bytes_str (l : List Int) (h : ∀ b ∈ l,0≤b∧b≤255) : bytesOf (strOfNums l)=l:=by
 rw [bytesOf,strOfNums_data,List.map_map]
 conv => rhs;rw [← List.map_id l]
 refine List.map_congr_left (fun b hb => ?_);have:=h b hb;show (((UInt8.ofNat b.toNat).toNat : Nat) : Int)=b;rw [UInt8.toNat_ofNat']
 omega
abbrev Byts (l : List Int) : Prop:=∀ b ∈ l,0≤b∧b≤255
theorem bt_of (l : List Int) (hl : Byts l) (i : Nat) (h : i<l.length) : bt (strOfNums l) (i : Int)=l[i]:=by
 have hz:=bytes_str l hl;have:=bt_get (strOfNums l) i (by rw [hz];exact h);simp only [hz] at this;exact this
theorem right_four {d : Nat} {v : IVal} (h : rightV d v=true) (h4 : v.f0=4) : ∃ e l,d=e + 1∧itS v.f2.size v.f2=some l∧l.all (rightV e)=true:=by
 cases d with
 | zero =>
  have : flat v=true:=h;unfold flat at this;rw [if_neg (by omega),if_neg (by omega),if_neg (by omega),if_neg (by omega)] at this
  cases this
 | succ e =>
  unfold rightV at h;rw [if_pos h4] at h
  cases hi : itS v.f2.size v.f2 with
  | none => rw [hi] at h;simp at h
  | some l =>
   rw [hi] at h;simp only [Bool.and_eq_true] at h;exact ⟨e,l,rfl,rfl,h.2.2⟩
theorem right_five {d : Nat} {v : IVal} (h : rightV d v=true) (h5 : v.f0=5) : ∃ e l,d=e + 1∧fdS v.f2.size v.f2=some l∧nms none l=true∧l.all (fun f => rightV e f.f1)=true:=by
 have h4 : ¬ v.f0=4:=by omega
 cases d with
 | zero =>
  have : flat v=true:=h;unfold flat at this;rw [if_neg (by omega),if_neg (by omega),if_neg (by omega),if_neg (by omega)] at this
  cases this
 | succ e =>
  unfold rightV at h;rw [if_neg h4,if_pos h5] at h
  cases hi : fdS v.f2.size v.f2 with
  | none => rw [hi] at h;simp at h
  | some l =>
   rw [hi] at h;simp only [Bool.and_eq_true] at h;exact ⟨e,l,rfl,rfl,h.2.2.1,h.2.2.2⟩
theorem filled {α : Type} (ys : List α) (n : Nat) (c : Nat→α) (h1 : ys.length=n) (h2 : ∀ j,j<n→ys[j]? = some (c j)) : ys=(List.range n).map c:=by
 apply List.ext_getElem?
 intro j
 by_cases hj : j<n
 ·
  rw [h2 j hj];simp [hj]
 rw [List.getElem?_eq_none (by omega),List.getElem?_eq_none (by simp;omega)]
theorem fill_next {α : Type} (ys : List α) (i : Nat) (c : Nat→α) (h1 : i<ys.length) (h2 : ∀ j,j<i→ys[j]? = some (c j)) : ∀ j,j<i + 1→(ys.set i (c i))[j]? = some (c j):=by
 intro j hj
 by_cases h : j=i
 ·
  subst h;simp [h1]
 rw [List.getElem?_set_ne (by omega)];exact h2 j (by omega)
def Shape (v : IVal) : Prop :=
 (v.f0=0∧v.f1=0∧v.f2=eB)∨(v.f0=1∧(0≤v.f1∧v.f1≤1)∧v.f2=eB)∨(v.f0=2∧(-1000000000000≤v.f1∧v.f1≤1000000000000)∧v.f2=eB)∨((3≤v.f0∧v.f0≤5)∧v.f1=0∧v.f2.size≤300)
theorem em_is {a : ByteArray} (h : emB a=true) : a=eB:=ba_ext (by rw [show a.toList=([] : List UInt8) from eq_of_beq h,ba_toList])
theorem flat_shape {v : IVal} (h : flat v=true) : Shape v:=by
 unfold flat at h;unfold Shape
 by_cases q0 : v.f0=0
 ·
  rw [if_pos q0,Bool.and_eq_true,decide_eq_true_eq] at h
  exact .inl ⟨q0,h.1,em_is h.2⟩
 rw [if_neg q0] at h
 by_cases q1 : v.f0=1
 ·
  rw [if_pos q1,Bool.and_eq_true] at h
  have h1:=h.1;unfold inr at h1;rw [Bool.and_eq_true,decide_eq_true_eq,decide_eq_true_eq] at h1;exact .inr (.inl ⟨q1,h1,em_is h.2⟩)
 rw [if_neg q1] at h
 by_cases q2 : v.f0=2
 ·
  rw [if_pos q2,Bool.and_eq_true] at h
  have h1:=h.1;unfold inr at h1;rw [Bool.and_eq_true,decide_eq_true_eq,decide_eq_true_eq] at h1;exact .inr (.inr (.inl ⟨q2,h1,em_is h.2⟩))
 rw [if_neg q2] at h
 by_cases q3 : v.f0=3
 ·
  rw [if_pos q3,Bool.and_eq_true,decide_eq_true_eq,decide_eq_true_eq] at h
  exact .inr (.inr (.inr ⟨by omega,h.1,by omega⟩))
 rw [if_neg q3] at h;cases h
theorem right_shape : ∀ (d : Nat) (v : IVal),rightV d v=true→Shape v:=by
 intro d v h
 cases d with
 | zero => exact flat_shape h
 | succ d =>
  unfold rightV at h
  by_cases h4 : v.f0=4
  ·
   rw [if_pos h4,Bool.and_eq_true,Bool.and_eq_true,decide_eq_true_eq,decide_eq_true_eq] at h
   exact .inr (.inr (.inr ⟨by omega,h.1,by omega⟩))
  rw [if_neg h4] at h
  by_cases h5 : v.f0=5
  ·
   rw [if_pos h5,Bool.and_eq_true,Bool.and_eq_true,decide_eq_true_eq,decide_eq_true_eq] at h
   exact .inr (.inr (.inr ⟨by omega,h.1,by omega⟩))
  rw [if_neg h5] at h;exact flat_shape h
def dig (x : Int) : Nat→List Int
 | 0 => []
 | m + 1 => (shr .i64 x (8 * (m : Int)) % 256) :: dig x m
theorem dig_in (x : Int) : ∀ m,∀ b ∈ dig x m,0≤b∧b≤255
 | 0 => fun b hb => by simp [dig] at hb
 | m + 1 => fun b hb => by
  rcases List.mem_cons.1 hb with rfl|hb
  ·
   omega
  exact dig_in x m b hb
theorem dig_length (x : Int) : ∀ m,(dig x m).length=m
 | 0 => rfl
 | m + 1 => by rw [dig,List.length_cons,dig_length x m]
theorem shr_at (x : Int) (m : Nat) (h : m≤8) : shr .i64 x (8 * (m : Int))=x / 2 ^ (8 * m):=by
 unfold shr;have e1 : (8 * (m : Int)).toNat=8 * m:=by omega
 have e2 : min (8 * m) (IntKind.bits .i64)=8 * m:=Nat.min_eq_left (by show 8 * m≤64;omega);rw [e1,e2]
theorem shr_zero (x : Int) : shr .i64 x (8 * ((0 : Nat) : Int))=x:=by rw [shr_at x 0 (by omega)];simp
theorem u64_at (m : Nat) (h : m≤8) : IntKind.u64.wrap (wrap64 (8 * (m : Int)))=8 * (m : Int):=by
 rw [w64 (by omega) (by omega)];rw [show IntKind.u64.wrap (8 * (m : Int))=(8 * (m : Int)) % 18446744073709551616 from rfl]
 omega
theorem number_loop (x : Int) : ∀ (m : Nat) (acc : List Int),m≤8→acc.length + m≤100→Eve (fun k => F9.l0 k x acc ((m : Int) - 1)) (strOfNums (acc ++ dig x m)):=by
 intro m
 induction m with
 | zero =>
  intro acc _ _;refine Eve.succ ?_;simp only [F9.l0];exact Eve.ite (fun h => absurd h (by omega)) (fun _ => Eve.one.eq (by simp [dig]))
 | succ m ih =>
  intro acc h1 h2;refine Eve.succ ?_;simp only [F9.l0,show ((m + 1 : Nat) : Int) - 1=(m : Int) by omega,u64_at m (by omega),w64 (show -9223372036854775808≤(m : Int) - 1 by omega) (by omega)];refine Eve.ite (fun _ => ?_) (fun h => absurd (by omega) h);refine Eve.ite (fun _ => ?_) (fun h => absurd (by omega) h);refine Eve.ite (fun _ => ?_) (fun h => absurd (by omega) h);exact (ih _ (by omega) (by simp;omega)).eq (by simp [dig])
theorem number_tells (x : Int) (n : Nat) (h : n≤8) : Eve (fun k => F9.f k x (n : Int)) (strOfNums (dig x n)):=by
 simp only [F9.f,w64 (show -9223372036854775808≤(n : Int) - 1 by omega) (by omega)];exact (number_loop x n [] h (by simp;omega)).eq (by simp)
def dig8 (x : Int) (i : Nat) : Int:=shr .i64 x (56 - 8 * (i : Int)) % 256
theorem eight_tells (x : Int) : Eve (fun k => Fh.f k x) (dig x 8):=by
 simp only [Fh.f];refine Eve.ite (fun _ => ?_) (fun h => absurd (by decide) h);have hl : (List.replicate 8 (0 : Int)).length=8:=by simp
 have he : (List.range 8).map (dig8 x)=dig x 8:=rfl;refine ev_loop0 (List.replicate 8 (0 : Int)) (fun k (s : List Int) i => Fh.l0 k x s i) (fun _ _ _ => dig x 8) (fun i s => s.length=8 ∧ ∀ j,j<i→s[j]? = some (dig8 x j)) (fun s hs => ?_) (fun i hi s hs ih => ?_) (List.replicate 8 0) ⟨hl,by intro j hj;omega⟩
 ·
  simp only [Fh.l0]
  refine Eve.ite (fun h => absurd h (by omega)) (fun _ => Eve.one.eq ?_);rw [← he];exact filled s 8 _ hs.1 (fun j hj => hs.2 j (by omega))
 obtain ⟨h1,h2⟩:=hs;have hi8 : i<8:=by omega
 have e1 : wrap64 (8 * (i : Int))=8 * (i : Int):=w64 (by omega) (by omega);have e2 : wrap64 (56 - 8 * (i : Int))=56 - 8 * (i : Int):=w64 (by omega) (by omega);simp only [Fh.l0,e1,e2,Int.toNat_natCast,wi (show i≤9223372036854775806 by omega)];refine Eve.ite (fun _ => ?_) (fun h => absurd (by omega) h);refine Eve.ite (fun _ => ?_) (fun h => absurd (by omega) h);refine Eve.ite (fun _ => ?_) (fun h => absurd (by omega) h);refine Eve.ite (fun _ => ?_) (fun h => absurd (by omega) h);exact ih (s.set i (dig8 x i)) ⟨by simpa using h1,fill_next s i (dig8 x) (by omega) h2⟩
def esz (v : IVal) : Nat:=if v.f0=0 then 1 else if v.f0=1 then 2 else if v.f0=2 then 9 else 3 + v.f2.size
theorem nxt_esz (a : ByteArray) (v : IVal) (r : ByteArray) (h : nxtV a=some (v,r)) : esz v + r.size=a.size:=by
 obtain ⟨n,h1,h2,rfl,_,hc⟩:=nxt_cases a v r h;rw [ByteArray.size_extract];unfold esz;rcases hc with ⟨q,rfl⟩|⟨q,rfl,_⟩|⟨q,rfl,_⟩|⟨q,q2,hn,_⟩
 ·
  rw [if_pos q];omega
 ·
  rw [if_neg (by omega),if_pos q];omega
 ·
  rw [if_neg (by omega),if_neg (by omega),if_pos q];omega
 rw [if_neg (by omega),if_neg (by omega),if_neg (by omega)];omega
theorem its_esz : ∀ (m : Nat) (a : ByteArray) (l : List IVal),itS m a=some l→total esz l=a.size:=by
 intro m
 induction m with
 | zero =>
  intro a l h;simp only [itS] at h
  by_cases hz : a.size=0
  ·
   rw [if_pos hz] at h
   obtain rfl : []=l:=by simpa using h
   exact hz.symm
  rw [if_neg hz] at h;simp at h
 | succ m ih =>
  intro a l h;simp only [itS] at h
  by_cases hz : a.size=0
  ·
   rw [if_pos hz] at h
   obtain rfl : []=l:=by simpa using h
   exact hz.symm
  rw [if_neg hz] at h
  cases hn : nxtV a with
  | none => rw [hn] at h;simp at h
  | some p =>
   obtain ⟨v,r⟩:=p;rw [hn] at h;simp only [Option.map_eq_some_iff] at h;obtain ⟨l',h',rfl⟩:=h;have h1:=nxt_esz a v r hn;have h2:=ih r l' h';show esz v + total esz l' = a.size
   omega
def fsz (f : IFld) : Nat:=1 + f.f0.size + esz f.f1
theorem fds_esz : ∀ (m : Nat) (a : ByteArray) (l : List IFld),fdS m a=some l→total fsz l=a.size:=by
 intro m
 induction m with
 | zero =>
  intro a l h;simp only [fdS] at h
  by_cases hz : a.size=0
  ·
   rw [if_pos hz] at h
   obtain rfl : []=l:=by simpa using h
   exact hz.symm
  rw [if_neg hz] at h;simp at h
 | succ m ih =>
  intro a l h;simp only [fdS] at h
  by_cases hz : a.size=0
  ·
   rw [if_pos hz] at h
   obtain rfl : []=l:=by simpa using h
   exact hz.symm
  rw [if_neg hz] at h
  by_cases hy : (a.size : Int)<1 + bt a 0
  ·
   rw [if_pos hy] at h;simp at h
  rw [if_neg hy] at h;have hb:=bt_range a 0
  cases hn : nxtV (a.extract (1 + bt a 0).toNat a.size) with
  | none => rw [hn] at h;simp at h
  | some p =>
   obtain ⟨v,r⟩:=p;rw [hn] at h;simp only [Option.map_eq_some_iff] at h;obtain ⟨l',h',rfl⟩:=h;have h1:=nxt_esz _ v r hn;have h2:=ih r l' h';rw [ByteArray.size_extract] at h1;show 1 + (a.extract 1 (1 + bt a 0).toNat).size + esz v + total fsz l' = a.size;rw [ByteArray.size_extract]
   omega
def escL : List Int→List Int
 | [] => [0,0]
 | b :: l => b :: (if b=0 then 255 :: escL l else escL l)
theorem escL_len : ∀ l : List Int,(escL l).length≤2 * l.length + 2
 | [] => by simp [escL]
 | b :: l => by
  have:=escL_len l;unfold escL
  split <;> simp <;> omega
theorem escL_in : ∀ l : List Int,Byts l→Byts (escL l)
 | [],_ => by intro b hb;simp [escL] at hb;omega
 | b :: l,h => by
  have h1:=escL_in l (fun x hx => h x (by simp [hx]));have h2:=h b (by simp);intro x hx;unfold escL at hx
  by_cases hb : b=0
  ·
   rw [if_pos hb] at hx
   rcases List.mem_cons.1 hx with rfl|hx
   ·
    exact h2
   rcases List.mem_cons.1 hx with rfl|hx
   ·
    omega
   exact h1 x hx
  rw [if_neg hb] at hx;rcases List.mem_cons.1 hx with rfl|hx
  ·
   exact h2
  exact h1 x hx
def rawB : Nat→IVal→List Int
 | d,v => ((v.f0 + 1) % 256) :: (
  if v.f0=0 then [] else if v.f0=1 then [v.f1 % 256] else if v.f0=2 then dig (v.f1 + 4611686018427387904) 8
  else if v.f0=3 then escL (bytesOf v.f2)
  else match d with
   | 0 => []
   | d + 1 => if v.f0=4 then ((itS v.f2.size v.f2).getD []).flatMap (rawB d) ++ [0]
    else ((fdS v.f2.size v.f2).getD []).flatMap (fun f => 1 :: (escL (bytesOf f.f0) ++ rawB d f.f1)) ++ [0])
theorem flat_len {α β : Type} (g : α→List β) (s : α→Nat) : ∀ l : List α,(∀ x ∈ l,(g x).length≤3 * s x)→(l.flatMap g).length≤3 * total s l
 | [],_ => by simp [total]
 | x :: l,h => by
  have h1:=h x (by simp);have h2:=flat_len g s l (fun y hy => h y (by simp [hy]));rw [List.flatMap_cons,List.length_append];show _≤3 * (s x + total s l)
  omega
theorem right_300 {d : Nat} {v : IVal} (h : rightV d v=true) : v.f2.size≤300:=by
 rcases right_shape d v h with ⟨_,_,h⟩|⟨_,_,h⟩|⟨_,_,h⟩|⟨_,_,h⟩
 ·
  rw [h];decide
 ·
  rw [h];decide
 ·
  rw [h];decide
 exact h
theorem raw_len : ∀ (d : Nat) (v : IVal),rightV d v=true→(rawB d v).length≤3 * esz v:=by
 intro d
 induction d with
 | zero =>
  intro v h;have hs:=right_shape 0 v h;unfold rawB esz;have he:=escL_len (bytesOf v.f2);rw [bytesOf_length] at he;have hd:=dig_length (v.f1 + 4611686018427387904) 8
  split
  ·
   simp
  split
  ·
   simp
  split
  ·
   simp [hd]
  split
  ·
   simp;omega
  simp;omega
 | succ d ih =>
  intro v h;have he:=escL_len (bytesOf v.f2);rw [bytesOf_length] at he;have hd:=dig_length (v.f1 + 4611686018427387904) 8
  by_cases h4 : v.f0=4
  ·
   obtain ⟨e,l,he2,hi,hl⟩:=right_four h h4
   obtain rfl : d=e:=by omega
   unfold rawB esz;rw [if_neg (by omega),if_neg (by omega),if_neg (by omega),if_neg (by omega),if_neg (by omega),if_neg (by omega),if_neg (by omega)];simp only [h4,if_true,hi,Option.getD_some];have h1:=flat_len (rawB d) esz l (fun x hx => ih x (List.all_eq_true.1 hl x hx));have h2:=its_esz _ _ l hi;simp only [List.length_cons,List.length_append,List.length_nil]
   omega
  by_cases h5 : v.f0=5
  ·
   obtain ⟨e,l,he2,hi,hn,hl⟩:=right_five h h5
   obtain rfl : d=e:=by omega
   unfold rawB esz;rw [if_neg (by omega),if_neg (by omega),if_neg (by omega),if_neg (by omega),if_neg (by omega),if_neg (by omega),if_neg (by omega)];simp only [if_neg h4,hi,Option.getD_some]
   have h1:=flat_len (fun f : IFld => 1 :: (escL (bytesOf f.f0) ++ rawB d f.f1)) fsz l (fun x hx => by
    have:=ih x.f1 (List.all_eq_true.1 hl x hx);have h3:=escL_len (bytesOf x.f0);rw [bytesOf_length] at h3;unfold fsz;simp only [List.length_cons,List.length_append]
    omega)
   have h2:=fds_esz _ _ l hi;simp only [List.length_cons,List.length_append,List.length_nil]
   omega
  unfold rawB esz;have hs:=right_shape _ v h
  split
  ·
   simp
  split
  ·
   simp
  split
  ·
   simp [hd]
  split
  ·
   simp;omega
  unfold Shape at hs
  omega
theorem flat_in {α : Type} (g : α→List Int) : ∀ l : List α,(∀ x ∈ l,Byts (g x))→Byts (l.flatMap g):=fun l h b hb => by
 obtain ⟨x,hx,hb⟩:=List.mem_flatMap.1 hb;exact h x hx b hb
theorem raw_at (d : Nat) (v : IVal) (l : List Int) (h : l=(
  if v.f0=0 then [] else if v.f0=1 then [v.f1 % 256] else if v.f0=2 then dig (v.f1 + 4611686018427387904) 8
  else if v.f0=3 then escL (bytesOf v.f2)
  else match d with
   | 0 => []
   | d + 1 => if v.f0=4 then ((itS v.f2.size v.f2).getD []).flatMap (rawB d) ++ [0]
    else ((fdS v.f2.size v.f2).getD []).flatMap (fun f => 1 :: (escL (bytesOf f.f0) ++ rawB d f.f1)) ++ [0])) : rawB d v=((v.f0 + 1) % 256) :: l:=by
 subst h;cases d <;> rfl
theorem raw_in_of (d : Nat) (v : IVal) (hr : ∀ e,d=e + 1 → ∀ u,Byts (rawB e u)) : Byts (rawB d v):=by
 have fin : ∀ l : List Int,rawB d v=((v.f0 + 1) % 256) :: l→Byts l→Byts (rawB d v):=fun l e hl b hb => by
  rw [e] at hb;rcases List.mem_cons.1 hb with rfl|hb
  ·
   omega
  exact hl b hb
 by_cases h0 : v.f0=0
 ·
  exact fin [] (raw_at d v [] (by rw [if_pos h0])) (fun b hb => by simp at hb)
 by_cases h1 : v.f0=1
 ·
  exact fin [v.f1 % 256] (raw_at d v _ (by rw [if_neg h0,if_pos h1])) (fun b hb => by simp at hb;omega)
 by_cases h2 : v.f0=2
 ·
  exact fin _ (raw_at d v _ (by rw [if_neg h0,if_neg h1,if_pos h2])) (dig_in _ _)
 by_cases h3 : v.f0=3
 ·
  exact fin _ (raw_at d v _ (by rw [if_neg h0,if_neg h1,if_neg h2,if_pos h3])) (escL_in _ (bytes_in _))
 cases d with
 | zero => exact fin [] (raw_at 0 v _ (by rw [if_neg h0,if_neg h1,if_neg h2,if_neg h3])) (fun b hb => by simp at hb)
 | succ d =>
  have ih:=hr d rfl
  by_cases h4 : v.f0=4
  ·
   refine fin _ (raw_at (d + 1) v _ (by rw [if_neg h0,if_neg h1,if_neg h2,if_neg h3])) (fun b hb => ?_)
   simp only [if_pos h4] at hb;rcases List.mem_append.1 hb with hb|hb
   ·
    exact flat_in _ _ (fun x _ => ih x) b hb
   simp at hb;omega
  refine fin _ (raw_at (d + 1) v _ (by rw [if_neg h0,if_neg h1,if_neg h2,if_neg h3])) (fun b hb => ?_);simp only [if_neg h4] at hb;rcases List.mem_append.1 hb with hb|hb
  ·
   refine flat_in _ _ (fun f _ c hc => ?_) b hb
   rcases List.mem_cons.1 hc with rfl|hc
   ·
    omega
   rcases List.mem_append.1 hc with hc|hc
   ·
    exact escL_in _ (bytes_in _) c hc
   exact ih _ c hc
  simp at hb;omega
theorem raw_in : ∀ (d : Nat) (v : IVal),Byts (rawB d v)
 | 0,v => raw_in_of 0 v (fun e h => by omega)
 | d + 1,v => raw_in_of (d + 1) v (fun e h u => by
  obtain rfl : d=e:=by omega
  exact raw_in d u)
theorem str_len (l : List Int) : (strOfNums l).size=l.length:=by
 unfold strOfNums;simp [ByteArray.size]
theorem esc_spec (s : ByteArray) (hs : s.size≤1048576) : Eve (fun k => Ff.f k s) (strOfNums (escL (bytesOf s))):=by
 have hn : (bytesOf s).length=s.size:=bytesOf_length s;simp only [Ff.f];refine (ev_loop0 (bytesOf s) (fun k (x : List Int) i => Ff.l0 k s x i) (fun _ x r => strOfNums (x ++ escL r)) (fun i x => x.length≤2 * i) (fun x hx => ?_) (fun i hi x hx ih => ?_) [] (by simp)).eq (by simp)
 ·
  simp only [Ff.l0,Option.bind_some]
  refine Eve.ite (fun h => absurd h (by omega)) (fun _ => ?_);refine Eve.ite (fun _ => Eve.one) (fun h => absurd (by simp;omega) h)
 simp only [Ff.l0,Option.bind_some,bt_get s i hi,wi (show i≤9223372036854775806 by omega)];refine Eve.ite (fun _ => ?_) (fun h => absurd (by omega) h);refine Eve.ite (fun _ => ?_) (fun h => absurd (by omega) h);refine Eve.ite (fun _ => ?_) (fun h => absurd (by omega) h);refine Eve.ite (fun h0 => ?_) (fun h0 => ?_)
 ·
  refine Eve.ite (fun _ => ?_) (fun h => absurd (by simp;omega) h)
  refine (ih (x ++ [(bytesOf s)[i]] ++ [255]) (by simp;omega)).eq ?_;rw [escL,if_pos h0];simp
 refine (ih (x ++ [(bytesOf s)[i]]) (by simp;omega)).eq ?_;rw [escL,if_neg h0];simp
theorem esc_impl (acc : List Int) (s : ByteArray) (ha : acc.length≤4194304) (hs : s.size≤1048576) : Eve (fun k => Fe.f k acc s) (acc ++ escL (bytesOf s)):=by
 have hn : (bytesOf s).length=s.size:=bytesOf_length s;simp only [Fe.f];refine ev_loop0 (bytesOf s) (fun k (x : List Int) i => Fe.l0 k x s (s.size : Int) i) (fun _ x r => x ++ escL r) (fun i x => x.length≤acc.length + 2 * i) (fun x hx => ?_) (fun i hi x hx ih => ?_) acc (by simp)
 ·
  simp only [Fe.l0,Option.bind_some]
  refine Eve.ite (fun h => absurd h (by omega)) (fun _ => ?_);refine Eve.ite (fun _ => Eve.one.eq (by simp [escL])) (fun h => absurd (by simp;omega) h)
 simp only [Fe.l0,Option.bind_some,bt_get s i hi,wi (show i≤9223372036854775806 by omega)];refine Eve.ite (fun _ => ?_) (fun h => absurd (by omega) h);refine Eve.ite (fun _ => ?_) (fun h => absurd (by omega) h);refine Eve.ite (fun _ => ?_) (fun h => absurd (by omega) h);refine Eve.ite (fun _ => ?_) (fun h => absurd (by omega) h);refine Eve.ite (fun h0 => ?_) (fun h0 => ?_)
 ·
  refine Eve.ite (fun _ => ?_) (fun h => absurd (by simp;omega) h)
  refine (ih (x ++ [(bytesOf s)[i]] ++ [255]) (by simp;omega)).eq ?_;rw [escL,if_pos h0];simp
 refine (ih (x ++ [(bytesOf s)[i]]) (by simp;omega)).eq ?_;rw [escL,if_neg h0];simp
theorem total_drop {α : Type} (s : α→Nat) (l : List α) (i : Nat) (h : i<l.length) : total s (l.drop i)=s l[i] + total s (l.drop (i + 1)):=by
 rw [drop_at l i h];rfl
theorem key_impl : ∀ (d : Nat) (v : IVal) (acc : List Int),rightV d v=true→acc.length + 3 * esz v≤4000000→Eve (fun k => F3.f k acc v.f0 v.f1 v.f2) (acc ++ rawB d v):=by
 intro d
 induction d with
 | zero =>
  intro v acc h ha;have hs:=right_shape 0 v h;have hk : 0≤v.f0∧v.f0≤5:=by unfold Shape at hs;omega
  have h3:=right_300 h;refine Eve.succ ?_;simp only [F3.f,Option.bind_some,w64 (i:=v.f0 + 1) (by omega) (by omega)];refine Eve.ite (fun _ => ?_) (fun h => absurd (by omega) h);refine Eve.ite (fun h1 => Eve.ite (fun _ => Eve.one.eq ?_) (fun h => absurd (by simp;omega) h)) (fun h1 => ?_)
  ·
   rw [raw_at 0 v [v.f1 % 256] (by rw [if_neg (by omega),if_pos h1])];simp
  refine Eve.ite (fun h2 => ?_) (fun h2 => ?_)
  ·
   have hv : -1000000000000≤v.f1∧v.f1≤1000000000000:=by unfold Shape at hs;omega
   rw [w64 (i:=v.f1 + 4611686018427387904) (by omega) (by omega)];refine Eve.bind (eight_tells _) (Eve.ite (fun _ => Eve.one.eq ?_) (fun h => absurd (by simp [dig_length];omega) h));rw [raw_at 0 v _ (by rw [if_neg (by omega),if_neg h1,if_pos h2])];simp
  refine Eve.ite (fun h4 => ?_) (fun h4 => ?_)
  ·
   refine Eve.bind (esc_impl _ v.f2 (by simp;omega) (by omega)) (Eve.one.eq ?_)
   rw [raw_at 0 v _ (by rw [if_neg (by omega),if_neg h1,if_neg h2,if_pos h4])];simp
  have h0 : v.f0=0:=by
   have h9 : flat v=true:=h;unfold flat at h9
   by_cases q : v.f0=0
   ·
    exact q
   rw [if_neg q,if_neg h1,if_neg h2,if_neg h4] at h9;cases h9
  refine Eve.ite (fun h => absurd h (by omega)) (fun _ => ?_);refine Eve.ite (fun h => absurd h (by omega)) (fun _ => Eve.one.eq ?_);rw [raw_at 0 v [] (by rw [if_pos h0])]
 | succ d ih =>
  intro v acc h ha;have hs:=right_shape _ v h;have hk : 0≤v.f0∧v.f0≤5:=by unfold Shape at hs;omega
  have h3:=right_300 h;refine Eve.succ ?_;simp only [F3.f,Option.bind_some,w64 (i:=v.f0 + 1) (by omega) (by omega)];refine Eve.ite (fun _ => ?_) (fun h => absurd (by omega) h);refine Eve.ite (fun h1 => Eve.ite (fun _ => Eve.one.eq ?_) (fun h => absurd (by simp;omega) h)) (fun h1 => ?_)
  ·
   rw [raw_at _ v [v.f1 % 256] (by rw [if_neg (by omega),if_pos h1])];simp
  refine Eve.ite (fun h2 => ?_) (fun h2 => ?_)
  ·
   have hv : -1000000000000≤v.f1∧v.f1≤1000000000000:=by unfold Shape at hs;omega
   rw [w64 (i:=v.f1 + 4611686018427387904) (by omega) (by omega)];refine Eve.bind (eight_tells _) (Eve.ite (fun _ => Eve.one.eq ?_) (fun h => absurd (by simp [dig_length];omega) h));rw [raw_at _ v _ (by rw [if_neg (by omega),if_neg h1,if_pos h2])];simp
  refine Eve.ite (fun h4 => ?_) (fun h4 => ?_)
  ·
   refine Eve.bind (esc_impl _ v.f2 (by simp;omega) (by omega)) (Eve.one.eq ?_)
   rw [raw_at _ v _ (by rw [if_neg (by omega),if_neg h1,if_neg h2,if_pos h4])];simp
  refine Eve.ite (fun h5 => ?_) (fun h5 => ?_)
  ·
   obtain ⟨e,l,he2,hi,hl⟩:=right_four h h5
   obtain rfl : d=e:=by omega
   have hez : esz v=3 + v.f2.size:=by unfold esz;rw [if_neg (by omega),if_neg (by omega),if_neg (by omega)]
   have hit:=items_some _ v.f2 [] l hi (by simp;omega);have hll:=(its_size _ _ l hi (by omega)).1;have htot:=its_esz _ _ l hi;simp only [F8.f];refine Eve.bind hit ?_;simp only [List.nil_append];refine (ev_loop0 l (fun k (x : List Int) i => F3.l0 k x l (l.length : Int) i) (fun _ x r => x ++ r.flatMap (rawB d) ++ [0]) (fun i x => x.length + 3 * total esz (l.drop i)≤3999999) (fun x hx => ?_) (fun i hi x hx ih2 => ?_) (acc ++ [(v.f0 + 1) % 256]) (by simp;omega)).eq ?_
   ·
    simp only [F3.l0]
    refine Eve.ite (fun h => absurd h (by omega)) (fun _ => ?_);refine Eve.ite (fun _ => Eve.one.eq (by simp)) (fun h => absurd (by omega) h)
   ·
    simp only [F3.l0,rdV l i hi,wi (show i≤9223372036854775806 by omega)]
    rw [total_drop esz l i hi] at hx;have hr:=List.all_eq_true.1 hl _ (List.getElem_mem hi);refine Eve.ite (fun _ => ?_) (fun h => absurd (by omega) h);refine Eve.ite (fun _ => ?_) (fun h => absurd (by omega) h);refine Eve.ite (fun _ => ?_) (fun h => absurd (by omega) h);refine Eve.bind (ih l[i] x hr (by omega)) ?_;have hlen:=raw_len d l[i] hr;refine (ih2 (x ++ rawB d l[i]) (by simp;omega)).eq ?_;rw [List.flatMap_cons];simp
   rw [raw_at (d + 1) v _ (by rw [if_neg (by omega),if_neg h1,if_neg h2,if_neg h4])];simp only [h5,if_true,hi,Option.getD_some];simp
  refine Eve.ite (fun h6 => ?_) (fun h6 => ?_)
  ·
   obtain ⟨e,l,he2,hi,hn,hl⟩:=right_five h h6
   obtain rfl : d=e:=by omega
   have hez : esz v=3 + v.f2.size:=by unfold esz;rw [if_neg (by omega),if_neg (by omega),if_neg (by omega)]
   have hit:=fields_some _ v.f2 [] l hi (by simp;omega);have hll:=fds_size _ _ l hi (by omega);have htot:=fds_esz _ _ l hi;simp only [F5.f];refine Eve.bind hit ?_;simp only [List.nil_append];refine (ev_loop0 l (fun k (x : List Int) i => F3.l1 k x l (l.length : Int) i) (fun _ x r => x ++ r.flatMap (fun f => 1 :: (escL (bytesOf f.f0) ++ rawB d f.f1)) ++ [0]) (fun i x => x.length + 3 * total fsz (l.drop i)≤3999999) (fun x hx => ?_) (fun i hi x hx ih2 => ?_) (acc ++ [(v.f0 + 1) % 256]) (by simp;omega)).eq ?_
   ·
    simp only [F3.l1]
    refine Eve.ite (fun h => absurd h (by omega)) (fun _ => ?_);refine Eve.ite (fun _ => Eve.one.eq (by simp)) (fun h => absurd (by omega) h)
   ·
    simp only [F3.l1,rdF l i hi,wi (show i≤9223372036854775806 by omega)]
    rw [total_drop fsz l i hi] at hx;have hf : fsz l[i]=1 + l[i].f0.size + esz l[i].f1:=rfl;have hr:=List.all_eq_true.1 hl _ (List.getElem_mem hi);have hsz:=hll.2 _ (List.getElem_mem hi);have he:=escL_len (bytesOf l[i].f0);rw [bytesOf_length] at he;refine Eve.ite (fun _ => ?_) (fun h => absurd (by omega) h);refine Eve.ite (fun _ => ?_) (fun h => absurd (by omega) h);refine Eve.ite (fun _ => ?_) (fun h => absurd (by omega) h);refine Eve.ite (fun _ => ?_) (fun h => absurd (by omega) h);refine Eve.bind (esc_impl (x ++ [1]) l[i].f0 (by simp;omega) hsz.1) ?_;refine Eve.bind (ih l[i].f1 (x ++ [1] ++ escL (bytesOf l[i].f0)) hr (by simp;omega)) ?_;have hlen:=raw_len d l[i].f1 hr;refine (ih2 (x ++ [1] ++ escL (bytesOf l[i].f0) ++ rawB d l[i].f1) (by simp;omega)).eq ?_;rw [List.flatMap_cons];simp
   rw [raw_at (d + 1) v _ (by rw [if_neg (by omega),if_neg h1,if_neg h2,if_neg h4])];simp only [if_neg h5,hi,Option.getD_some];simp
  have h0 : v.f0=0:=by omega
  refine Eve.one.eq ?_;rw [raw_at _ v [] (by rw [if_pos h0])]
theorem one_number (x : Int) : Eve (fun k => F9.f k x 1) (strOfNums [x % 256]):=by
 have h:=number_tells x 1 (by omega)
 have e : dig x 1=[x % 256]:=by
  show [shr .i64 x (8 * ((0 : Nat) : Int)) % 256]=[x % 256];rw [shr_zero]
 rw [e] at h;exact h
theorem raw_spec : ∀ (d : Nat) (v : IVal),rightV d v=true→Eve (fun k => F2.f k v.f0 v.f1 v.f2) (strOfNums (rawB d v)):=by
 intro d
 induction d with
 | zero =>
  intro v h;have hs:=right_shape 0 v h;have hk : 0≤v.f0∧v.f0≤5:=by unfold Shape at hs;omega
  have h3:=right_300 h;refine Eve.succ ?_;simp only [F2.f,w64 (i:=v.f0 + 1) (by omega) (by omega)];refine Eve.bind (one_number (v.f0 + 1)) ?_;refine Eve.ite (fun h0 => Eve.one.eq ?_) (fun h0 => ?_)
  ·
   rw [raw_at 0 v [] (by rw [if_pos h0])]
  refine Eve.ite (fun h1 => ?_) (fun h1 => ?_)
  ·
   refine Eve.bind (one_number v.f1) (Eve.ite (fun _ => Eve.one.eq ?_) (fun h => absurd (by rw [str_len,str_len];simp) h))
   rw [raw_at 0 v [v.f1 % 256] (by rw [if_neg (by omega),if_pos h1]),← str_app];rfl
  refine Eve.ite (fun h2 => ?_) (fun h2 => ?_)
  ·
   have hv : -1000000000000≤v.f1∧v.f1≤1000000000000:=by unfold Shape at hs;omega
   rw [w64 (i:=v.f1 + 4611686018427387904) (by omega) (by omega)];refine Eve.bind (number_tells _ 8 (by omega)) (Eve.ite (fun _ => Eve.one.eq ?_) (fun h => absurd (by rw [str_len,str_len];simp [dig_length]) h));rw [raw_at 0 v _ (by rw [if_neg (by omega),if_neg h1,if_pos h2]),← str_app];rfl
  refine Eve.ite (fun h4 => ?_) (fun h4 => ?_)
  ·
   have he:=escL_len (bytesOf v.f2)
   rw [bytesOf_length] at he;refine Eve.bind (esc_spec v.f2 (by omega)) (Eve.ite (fun _ => Eve.one.eq ?_) (fun h => absurd (by rw [str_len,str_len];simp;omega) h));rw [raw_at 0 v _ (by rw [if_neg (by omega),if_neg h1,if_neg h2,if_pos h4]),← str_app];rfl
  have h9 : flat v=true:=h;unfold flat at h9;rw [if_neg h0,if_neg h1,if_neg h2,if_neg h4] at h9
  cases h9
 | succ d ih =>
  intro v h;have hs:=right_shape _ v h;have hk : 0≤v.f0∧v.f0≤5:=by unfold Shape at hs;omega
  have h3:=right_300 h;refine Eve.succ ?_;simp only [F2.f,w64 (i:=v.f0 + 1) (by omega) (by omega)];refine Eve.bind (one_number (v.f0 + 1)) ?_;refine Eve.ite (fun h0 => Eve.one.eq ?_) (fun h0 => ?_)
  ·
   rw [raw_at _ v [] (by rw [if_pos h0])]
  refine Eve.ite (fun h1 => ?_) (fun h1 => ?_)
  ·
   refine Eve.bind (one_number v.f1) (Eve.ite (fun _ => Eve.one.eq ?_) (fun h => absurd (by rw [str_len,str_len];simp) h))
   rw [raw_at _ v [v.f1 % 256] (by rw [if_neg (by omega),if_pos h1]),← str_app];rfl
  refine Eve.ite (fun h2 => ?_) (fun h2 => ?_)
  ·
   have hv : -1000000000000≤v.f1∧v.f1≤1000000000000:=by unfold Shape at hs;omega
   rw [w64 (i:=v.f1 + 4611686018427387904) (by omega) (by omega)];refine Eve.bind (number_tells _ 8 (by omega)) (Eve.ite (fun _ => Eve.one.eq ?_) (fun h => absurd (by rw [str_len,str_len];simp [dig_length]) h));rw [raw_at _ v _ (by rw [if_neg (by omega),if_neg h1,if_pos h2]),← str_app];rfl
  refine Eve.ite (fun h4 => ?_) (fun h4 => ?_)
  ·
   have he:=escL_len (bytesOf v.f2)
   rw [bytesOf_length] at he;refine Eve.bind (esc_spec v.f2 (by omega)) (Eve.ite (fun _ => Eve.one.eq ?_) (fun h => absurd (by rw [str_len,str_len];simp;omega) h));rw [raw_at _ v _ (by rw [if_neg (by omega),if_neg h1,if_neg h2,if_pos h4]),← str_app];rfl
  refine Eve.ite (fun h5 => ?_) (fun h5 => ?_)
  ·
   obtain ⟨e,l,he2,hi,hl⟩:=right_four h h5
   obtain rfl : d=e:=by omega
   have hit:=items_spec _ v.f2 [] (Nat.le_refl _) (by omega) (by simp;omega);have hll:=(its_size _ _ l hi (by omega)).1;have htot:=its_esz _ _ l hi;rw [hi] at hit;simp only [Fd.f];refine Eve.bind hit ?_;simp only [toldL,List.nil_append];refine (ev_loop0 l (fun k (x : ByteArray) i => F2.l0 k x l i) (fun _ x r => x ++ strOfNums (r.flatMap (rawB d) ++ [0])) (fun i x => x.size + 3 * total esz (l.drop i)≤3999999) (fun x hx => ?_) (fun i hi x hx ih2 => ?_) (strOfNums [(v.f0 + 1) % 256]) (by rw [str_len];simp;omega)).eq ?_
   ·
    simp only [F2.l0]
    refine Eve.ite (fun h => absurd h (by omega)) (fun _ => ?_);refine Eve.ite (fun _ => Eve.one.eq rfl) (fun h => absurd (by omega) h)
   ·
    simp only [F2.l0,rdV l i hi,wi (show i≤9223372036854775806 by omega)]
    rw [total_drop esz l i hi] at hx;have hr:=List.all_eq_true.1 hl _ (List.getElem_mem hi);have hlen:=raw_len d l[i] hr;refine Eve.ite (fun _ => ?_) (fun h => absurd (by omega) h);refine Eve.ite (fun _ => ?_) (fun h => absurd (by omega) h);refine Eve.bind (ih l[i] hr) ?_;refine Eve.ite (fun _ => ?_) (fun h => absurd (by rw [str_len];omega) h);refine (ih2 (x ++ strOfNums (rawB d l[i])) (by rw [ByteArray.size_append,str_len];omega)).eq ?_;rw [List.flatMap_cons,List.append_assoc,str_app (rawB d l[i]),ByteArray.append_assoc]
   rw [← str_app,raw_at (d + 1) v _ (by rw [if_neg (by omega),if_neg h1,if_neg h2,if_neg h4])];simp only [h5,if_true,hi,Option.getD_some]
   rfl
  have h6 : v.f0=5:=by omega
  obtain ⟨e,l,he2,hi,hn,hl⟩:=right_five h h6;obtain rfl : d=e:=by omega
  have hit:=fields_spec _ v.f2 [] (Nat.le_refl _) (by omega) (by simp;omega);have hll:=fds_size _ _ l hi (by omega);have htot:=fds_esz _ _ l hi;rw [hi] at hit;simp only [Fc.f];refine Eve.bind hit ?_;simp only [toldF,List.nil_append];refine (ev_loop0 l (fun k (x : ByteArray) i => F2.l1 k x l i) (fun _ x r => x ++ strOfNums (r.flatMap (fun f => 1 :: (escL (bytesOf f.f0) ++ rawB d f.f1)) ++ [0])) (fun i x => x.size + 3 * total fsz (l.drop i)≤3999999) (fun x hx => ?_) (fun i hi x hx ih2 => ?_) (strOfNums [(v.f0 + 1) % 256]) (by rw [str_len];simp;omega)).eq ?_
  ·
   simp only [F2.l1]
   refine Eve.ite (fun h => absurd h (by omega)) (fun _ => ?_);refine Eve.ite (fun _ => Eve.one.eq rfl) (fun h => absurd (by omega) h)
  ·
   simp only [F2.l1,rdF l i hi,wi (show i≤9223372036854775806 by omega)]
   rw [total_drop fsz l i hi] at hx;have hf : fsz l[i]=1 + l[i].f0.size + esz l[i].f1:=rfl;have hr:=List.all_eq_true.1 hl _ (List.getElem_mem hi);have hsz:=hll.2 _ (List.getElem_mem hi);have hlen:=raw_len d l[i].f1 hr;have he:=escL_len (bytesOf l[i].f0);rw [bytesOf_length] at he;have hone : (⟨#[1]⟩ : ByteArray)=strOfNums [1]:=rfl;refine Eve.ite (fun _ => ?_) (fun h => absurd (by omega) h);refine Eve.ite (fun _ => ?_) (fun h => absurd (by omega) h);refine Eve.bind (esc_spec l[i].f0 hsz.1) ?_;rw [hone,← str_app];refine Eve.ite (fun _ => ?_) (fun h => absurd (by rw [str_len];omega) h);refine Eve.bind (ih l[i].f1 hr) ?_;rw [← str_app];refine Eve.ite (fun _ => ?_) (fun h => absurd (by rw [str_len,str_len];simp;omega) h);refine Eve.ite (fun _ => ?_) (fun h => absurd (by rw [str_len];simp;omega) h);refine (ih2 _ (by rw [ByteArray.size_append,str_len];simp;omega)).eq ?_;rw [ByteArray.append_assoc,← str_app,List.flatMap_cons]
   congr 2
   simp
  rw [← str_app,raw_at (d + 1) v _ (by rw [if_neg (by omega),if_neg h1,if_neg h2,if_neg h4])];simp only [if_neg h5,hi,Option.getD_some]
  rfl
def turnB (l : List Int) : List Int:=l.map (fun c => (255 - c) % 256)
def keyB (v : IVal) (desc : Bool) : List Int:=if desc=true then turnB (rawB 5 v) else rawB 5 v
theorem turn_spec (l : List Int) (hl : Byts l) (hn : l.length≤1048576) : Eve (fun k => Fk.f k (strOfNums l)) (strOfNums (turnB l)):=by
 have hb:=bytes_str l hl;have hz:=str_len l;simp only [Fk.f];refine (ev_loop0 l (fun k (x : List Int) i => Fk.l0 k (strOfNums l) x i) (fun _ x r => strOfNums (x ++ turnB r)) (fun i x => x.length≤i) (fun x hx => ?_) (fun i hi x hx ih => ?_) [] (by simp)).eq (by simp)
 ·
  simp only [Fk.l0]
  exact Eve.ite (fun h => absurd h (by omega)) (fun _ => Eve.one.eq (by simp [turnB]))
 have hi2 : i<(bytesOf (strOfNums l)).length:=by rw [hb];exact hi
 have hg : bt (strOfNums l) (i : Int)=l[i]:=bt_of l hl i hi;simp only [Fk.l0,hg,wi (show i≤9223372036854775806 by omega)];refine Eve.ite (fun _ => ?_) (fun h => absurd (by omega) h);refine Eve.ite (fun _ => ?_) (fun h => absurd (by omega) h);refine Eve.ite (fun _ => ?_) (fun h => absurd (by omega) h);refine (ih (x ++ [(255 - l[i]) % 256]) (by simp;omega)).eq ?_;rw [show turnB (l[i] :: l.drop (i + 1))=(255 - l[i]) % 256 :: turnB (l.drop (i + 1)) from rfl,List.append_assoc]
 rfl
theorem fallen_tells (l : List Int) (desc : Bool) (hn : l.length≤1048576) : Fn.f l desc=some (strOfNums (if desc=true then turnB l else l)):=by
 unfold Fn.f;rw [if_pos (by omega)];have : Fn.row l l.length=turnB l:=by simp [Fn.row,turnB]
 rw [this]
theorem raw_909 {v : IVal} (h : rightV 5 v=true) : (rawB 5 v).length≤909:=by
 have h1:=raw_len 5 v h;have h2:=right_300 h;have h3 : esz v≤303:=by unfold esz;split;omega;split;omega;split;omega;omega
 omega
theorem keyOf_impl {v : IVal} (h : rightV 5 v=true) (desc : Bool) : Eve (fun k => Fu.f k v.f0 v.f1 v.f2 desc) (strOfNums (keyB v desc)):=by
 have h2:=right_300 h;have h3 : esz v≤303:=by unfold esz;split;omega;split;omega;split;omega;omega
 simp only [Fu.f];refine Eve.bind (key_impl 5 v [] h (by simp;omega)) ?_;rw [List.nil_append];simp only [fallen_tells (rawB 5 v) desc (by have:=raw_909 h;omega),Option.bind_some];exact Eve.one
theorem key_spec {v : IVal} (h : rightV 5 v=true) (desc : Bool) : Eve (fun k => Fv.f k v.f0 v.f1 v.f2 desc) (strOfNums (keyB v desc)):=by
 simp only [Fv.f];unfold keyB
 cases desc with
 | true =>
  simp only [if_true];refine Eve.bind (raw_spec 5 v h) ?_;exact Eve.bind (turn_spec _ (raw_in 5 v) (by have:=raw_909 h;omega)) Eve.one
 | false =>
  simp only [Bool.false_eq_true,if_false];exact Eve.bind (raw_spec 5 v h) Eve.one
abbrev LVal:=S23

def iv (v : LVal) : IVal:=⟨v.f0,v.f1,v.f2⟩
theorem szValue_tells (v : LVal) (h : v.f2.size≤9223372036854775807) {left : Int} (h0 : 0≤left) (h1 : left≤1048576) :
  F05.f v.f0 v.f1 v.f2 left=some (if left - v.f2.size<0 then -1 else left - v.f2.size):=by
 unfold F05.f;rw [w64 (by omega) (by omega)]
 split <;> rfl
theorem toValue_tells (v : LVal) : Fs.f v.f0 v.f1 v.f2=some (v.f0,v.f1,v.f2):=rfl
theorem Eve.list {α β : Type} (g : Nat→α→Option β) (q : α→β) : ∀ l : List α,(∀ x ∈ l,Eve (fun k => g k x) (q x)) → ∃ K,∀ k,K≤k → ∀ x ∈ l,g k x=some (q x)
 | [],_ => ⟨0,fun _ _ x hx => by simp at hx⟩
 | y :: l,h => by
  obtain ⟨K,hK⟩:=Eve.list g q l (fun x hx => h x (by simp [hx]));obtain ⟨K2,hK2⟩:=h y (by simp);refine ⟨max K K2,fun k hk x hx => ?_⟩;rcases List.mem_cons.1 hx with rfl|hx
  ·
   exact hK2 k (by omega)
  exact hK k (by omega) x hx
theorem cf_tells (l : List IVal) (q : IVal→Bool) (e : Int) (hl : l.length≤4194304) (h : ∀ x ∈ l,Eve (fun k => F4.f k x.f0 x.f1 x.f2 (wrap64 (e - 1))) (q x)) :
  Eve (fun k => Fa.f k (F4.f k) l e) (l.any (fun x => !q x)):=by
 obtain ⟨K,hK⟩:=Eve.list (fun k (x : IVal) => F4.f k x.f0 x.f1 x.f2 (wrap64 (e - 1))) q l h;refine ⟨max K (l.length + 1),fun k hk => ?_⟩;have hG : ∀ x ∈ l,F4.f k x.f0 x.f1 x.f2 (wrap64 (e - 1))=some (q x):=hK k (by omega);show Fa.f k (F4.f k) l e=_;generalize F4.f k=G at hG;unfold Fa.f Fm.f
 have:=first_loop (fun k i => Fm.l0 G k l (l.length : Int) i e) l (fun x => !q x) (fun k i hi => by
  have hx:=hG l[i] (List.getElem_mem hi);simp only [Fm.l0];rw [if_pos (by omega),if_pos (by omega),if_pos (by omega),rdV l i hi,wi (show i≤9223372036854775806 by omega)];unfold Fz.f;rw [hx]
  rfl) (fun k => by simp only [Fm.l0];rw [if_neg (by omega)]) l.length k 0 (by omega) (by omega)
 rw [show ((0 : Nat) : Int)=0 from rfl,List.drop_zero] at this;rw [this];simp only [Option.bind_some,first_any]
theorem any_not (l : List IVal) (q : IVal→Bool) : (!(l.any (fun x => !q x)))=l.all q:=by
 induction l with
 | nil => rfl
 | cons x l ih => simp only [List.any_cons,List.all_cons,← ih];cases q x <;> simp
theorem inner_loop (l : List IFld) (hl : l.length≤1048576) (hn : ∀ f ∈ l,f.f0.size≤1048576) (ok : Bool) : Eve (fun k => F6.l0 k l ok [] l (l.length : Int) 0) (l.map (·.f1),ok && nms none l):=by
 have:=ev_loop0 l (fun k (s : Bool×List IVal) i => F6.l0 k l s.1 s.2 l (l.length : Int) i) (fun i s r => (s.2 ++ r.map (·.f1),s.1 && nms (if i=0 then none else some (l.getD (i - 1) z54).f0) r)) (fun i s => s.2.length=i) (fun s _ => by
  simp only [F6.l0]
  exact Eve.ite (fun h => absurd h (by omega)) (fun _ => Eve.one.eq (by simp [nms]))) (fun i hi s hI ih => by
  obtain ⟨b,out⟩:=s;simp only at hI;have hf:=hn l[i] (List.getElem_mem hi);have hnx:=fun b' => ih (b',out ++ [⟨l[i].f1.f0,l[i].f1.f1,l[i].f1.f2⟩]) (by simp;omega);simp only [Nat.add_one_ne_zero,if_false,Nat.add_sub_cancel,List.getD_eq_getElem?_getD,List.getElem?_eq_getElem hi,Option.getD_some] at hnx;have hout : ∀ r : List IFld,out ++ [(⟨l[i].f1.f0,l[i].f1.f1,l[i].f1.f2⟩ : IVal)] ++ r.map (·.f1)=out ++ (l[i] :: r).map (·.f1):=by intro r;simp
  simp only [F6.l0];refine Eve.ite (fun _ => ?_) (fun h => absurd (by omega) h);refine Eve.ite (fun _ => ?_) (fun h => absurd (by omega) h);refine Eve.ite (fun _ => ?_) (fun h => absurd (by omega) h);simp only [rdF l i hi,wi (show i≤9223372036854775806 by omega)];refine Eve.ite (fun hb => ?_) (fun hb => ?_)
  ·
   refine Eve.bind (nam_impl _ hf) ?_
   refine Eve.ite (fun h1 => ?_) (fun h1 => ?_)
   ·
    refine Eve.ite (fun h2 => ?_) (fun h2 => ?_)
    ·
     obtain rfl : i=0:=by omega
     refine Eve.ite (fun _ => (hnx true).eq ?_) (fun h => absurd (by omega) h);rw [hout,if_pos rfl];simp only [nms,h1,hb,Bool.true_and]
    have hw : wrap64 ((i : Int) - 1)=((i - 1 : Nat) : Int):=by rw [w64 (by omega) (by omega)];omega
    simp only [hw];refine Eve.ite (fun _ => ?_) (fun h => absurd (by omega) h);refine Eve.ite (fun _ => ?_) (fun h => absurd (by omega) h);refine Eve.ite (fun _ => ?_) (fun h => absurd (by omega) h);have hi1 : i - 1<l.length:=by omega
    have hz : ¬ i=0:=by omega
    simp only [rdF l (i - 1) hi1];refine (hnx _).eq ?_;rw [hout,if_neg hz,List.getD_eq_getElem?_getD,List.getElem?_eq_getElem hi1,Option.getD_some];simp only [nms,h1,hb,Bool.true_and]
   refine Eve.ite (fun _ => (hnx false).eq ?_) (fun h => absurd (by omega) h);rw [hout];simp only [nms,Bool.eq_false_iff.mpr h1,Bool.false_and,Bool.and_false]
  refine Eve.ite (fun _ => (hnx false).eq ?_) (fun h => absurd (by omega) h);rw [hout]
  simp only [Bool.eq_false_iff.mpr hb,Bool.false_and]) (ok,[]) rfl
 exact this.eq (by simp)
theorem inner_four (v : IVal) (h4 : v.f0=4) (hs : v.f2.size≤1048576) : ∃ l ok,Eve (fun k => F6.f k v.f0 v.f1 v.f2) (l,ok)∧l.length≤1048576∧(∀ x ∈ l,x.f2.size≤1048576) ∧
  ((itS v.f2.size v.f2=some l∧ok=true)∨(itS v.f2.size v.f2=none∧(ok=false ∨ ∃ x ∈ l,Bad x))):=by
 simp only [F6.f,F8.f,if_pos h4]
 cases hi : itS v.f2.size v.f2 with
 | some l =>
  obtain ⟨h1,h2⟩:=its_size _ _ l hi hs;exact ⟨l,true,(Eve.bind (items_some _ v.f2 [] l hi (by simp;omega)) Eve.one),by omega,h2,.inl ⟨rfl,rfl⟩⟩
 | none =>
  obtain ⟨l,ok,hl,hb,h1,h2⟩:=items_none _ v.f2 [] (Nat.le_refl _) hi (by simp;omega);exact ⟨l,ok,(Eve.bind hl Eve.one),by omega,h2,.inr ⟨rfl,hb⟩⟩
theorem inner_five (v : IVal) (h5 : v.f0=5) (hs : v.f2.size≤1048576) : ∃ l ok,Eve (fun k => F6.f k v.f0 v.f1 v.f2) (l,ok)∧l.length≤1048576∧(∀ x ∈ l,x.f2.size≤1048576) ∧
  ((∃ fs,fdS v.f2.size v.f2=some fs∧l=fs.map (·.f1)∧ok=nms none fs)∨(fdS v.f2.size v.f2=none∧(ok=false ∨ ∃ x ∈ l,Bad x))):=by
 have h4 : ¬ v.f0=4:=by omega
 simp only [F6.f,F5.f,if_neg h4]
 cases hi : fdS v.f2.size v.f2 with
 | some fs =>
  obtain ⟨h1,h2⟩:=fds_size _ _ fs hi hs;refine ⟨fs.map (·.f1),nms none fs,?_,by simp;omega,?_,.inl ⟨fs,rfl,rfl,rfl⟩⟩
  ·
   refine Eve.bind (fields_some _ v.f2 [] fs hi (by simp;omega)) ?_
   exact (inner_loop fs (by omega) (fun f hf => (h2 f hf).1) true).eq (by simp)
  intro x hx;obtain ⟨f,hf,rfl⟩:=List.mem_map.1 hx;exact (h2 f hf).2
 | none =>
  obtain ⟨fs,ok,hl,hb,h1,h2⟩:=fields_none _ v.f2 [] (Nat.le_refl _) hi (by simp;omega);refine ⟨fs.map (·.f1),ok && nms none fs,?_,by simp;omega,?_,.inr ⟨rfl,?_⟩⟩
  ·
   refine Eve.bind hl ?_
   exact inner_loop fs (by omega) (fun f hf => (h2 f hf).1) ok
  ·
   intro x hx
   obtain ⟨f,hf,rfl⟩:=List.mem_map.1 hx;exact (h2 f hf).2
  rcases hb with hb|⟨f,hf,hb⟩
  ·
   left;rw [hb];rfl
  right;exact ⟨f.f1,List.mem_map.2 ⟨f,hf,rfl⟩,hb⟩
theorem all_bad (l : List IVal) (q : IVal→Bool) (x : IVal) (hx : x ∈ l) (h : q x=false) : l.all q=false:=by
 rw [List.all_eq_false];exact ⟨x,hx,by simp [h]⟩
theorem nest_tells (v : IVal) (d : Nat) (l : List IVal) (ok : Bool) (hd : d≤1000) (h45 : v.f0=4∨v.f0=5) (hin : Eve (fun k => F6.f k v.f0 v.f1 v.f2) (l,ok)) (hl : l.length≤1048576)
  (hq : ∀ x ∈ l,Eve (fun k => F4.f k x.f0 x.f1 x.f2 (d : Int)) (rightV d x)) :
  Eve (fun k => F4.f k v.f0 v.f1 v.f2 ((d + 1 : Nat) : Int)) (decide (v.f1=0) && (decide ((v.f2.size : Int)≤300) && (ok && l.all (rightV d)))):=by
 have hj : Eve (fun k => F4.j0 k true v.f0 v.f1 v.f2 ((d + 1 : Nat) : Int)) (decide (v.f1=0) && (decide ((v.f2.size : Int)≤300) && (ok && l.all (rightV d)))):=by
  refine Eve.succ ?_;simp only [F4.j0,if_true];refine Eve.bind hin ?_;refine Eve.ite (fun h1 => ?_) (fun h1 => Eve.one.eq (by simp [h1]));refine Eve.ite (fun h2 => ?_) (fun h2 => Eve.one.eq (by simp [h2]));refine Eve.ite (fun _ => ?_) (fun h => absurd (by omega) h);refine Eve.ite (fun h3 => ?_) (fun h3 => Eve.one.eq (by rw [show ok=false from Bool.eq_false_iff.mpr h3];simp));have hc:=cf_tells l (rightV d) ((d + 1 : Nat) : Int) (by omega) (fun x hx => by rw [dn d hd];exact hq x hx);refine Eve.bind hc (Eve.one.eq ?_);rw [any_not,show ok=true from h3];simp [h1,h2]
 refine Eve.succ ?_;simp only [F4.f];rcases h45 with h|h
 ·
  simp only [h] at hj ⊢
  simp only [show ¬ (4 : Int)=0 by omega,show ¬ (4 : Int)=1 by omega,show ¬ (4 : Int)=2 by omega,show ¬ (4 : Int)=3 by omega,if_false,if_true,beq_self_eq_true];exact hj
 simp only [h] at hj ⊢;simp only [show ¬ (5 : Int)=0 by omega,show ¬ (5 : Int)=1 by omega,show ¬ (5 : Int)=2 by omega,show ¬ (5 : Int)=3 by omega,show ¬ (5 : Int)=4 by omega,if_false,beq_self_eq_true];exact hj
theorem nest_zero (v : IVal) (l : List IVal) (ok : Bool) (h45 : v.f0=4∨v.f0=5) (hin : Eve (fun k => F6.f k v.f0 v.f1 v.f2) (l,ok)) : Eve (fun k => F4.f k v.f0 v.f1 v.f2 ((0 : Nat) : Int)) false:=by
 have hj : Eve (fun k => F4.j0 k true v.f0 v.f1 v.f2 ((0 : Nat) : Int)) false:=by
  refine Eve.succ ?_;simp only [F4.j0,if_true];refine Eve.bind hin ?_;refine Eve.ite (fun _ => ?_) (fun _ => Eve.one);refine Eve.ite (fun _ => ?_) (fun _ => Eve.one);exact Eve.ite (fun h => absurd h (by omega)) (fun _ => Eve.one)
 refine Eve.succ ?_;simp only [F4.f];rcases h45 with h|h
 ·
  simp only [h] at hj ⊢
  simp only [show ¬ (4 : Int)=0 by omega,show ¬ (4 : Int)=1 by omega,show ¬ (4 : Int)=2 by omega,show ¬ (4 : Int)=3 by omega,if_false,if_true,beq_self_eq_true];exact hj
 simp only [h] at hj ⊢;simp only [show ¬ (5 : Int)=0 by omega,show ¬ (5 : Int)=1 by omega,show ¬ (5 : Int)=2 by omega,show ¬ (5 : Int)=3 by omega,show ¬ (5 : Int)=4 by omega,if_false,beq_self_eq_true];exact hj
theorem right_impl : ∀ (d : Nat) (v : IVal),d≤1000→v.f2.size≤1048576→Eve (fun k => F4.f k v.f0 v.f1 v.f2 (d : Int)) (rightV d v):=by
 intro d
 induction d with
 | zero =>
  intro v hd hs
  by_cases h4 : v.f0=4
  ·
   obtain ⟨l,ok,hin,_⟩:=inner_four v h4 hs
   refine (nest_zero v l ok (.inl h4) hin).eq ?_;show false=flat v;unfold flat;rw [if_neg (by omega),if_neg (by omega),if_neg (by omega),if_neg (by omega)]
  by_cases h5 : v.f0=5
  ·
   obtain ⟨l,ok,hin,_⟩:=inner_five v h5 hs
   refine (nest_zero v l ok (.inr h5) hin).eq ?_;show false=flat v;unfold flat;rw [if_neg (by omega),if_neg (by omega),if_neg (by omega),if_neg (by omega)]
  exact impl_flat v _ h4 h5
 | succ d ih =>
  intro v hd hs
  by_cases h4 : v.f0=4
  ·
   obtain ⟨l,ok,hin,hl,hsz,hc⟩:=inner_four v h4 hs
   refine (nest_tells v d l ok (by omega) (.inl h4) hin hl (fun x hx => ih x (by omega) (hsz x hx))).eq ?_;unfold rightV;rw [if_pos h4];rcases hc with ⟨hi,rfl⟩|⟨hi,hb⟩
   ·
    rw [hi];simp
   rw [hi];rcases hb with rfl|⟨x,hx,hb⟩
   ·
    simp
   rw [all_bad l (rightV d) x hx (bad_right x hb d)];simp
  by_cases h5 : v.f0=5
  ·
   obtain ⟨l,ok,hin,hl,hsz,hc⟩:=inner_five v h5 hs
   refine (nest_tells v d l ok (by omega) (.inr h5) hin hl (fun x hx => ih x (by omega) (hsz x hx))).eq ?_;unfold rightV;rw [if_neg h4,if_pos h5];rcases hc with ⟨fs,hi,rfl,rfl⟩|⟨hi,hb⟩
   ·
    rw [hi,List.all_map];rfl
   rw [hi];rcases hb with rfl|⟨x,hx,hb⟩
   ·
    simp
   rw [all_bad l (rightV d) x hx (bad_right x hb d)];simp
  unfold rightV;rw [if_neg h4,if_neg h5];exact impl_flat v _ h4 h5
theorem right_small (d : Nat) (v : IVal) (h : 300<v.f2.size) : rightV d v=false:=by
 have he : emB v.f2=false:=by
  have : ¬ v.f2.toList=([] : List UInt8):=fun e => by have:=(emp _).1 e;omega
  simpa [emB] using this
 have hz : decide ((v.f2.size : Int)≤300)=false:=by simp;omega
 have hf : flat v=false:=by
  unfold flat;rw [he,hz]
  repeat' split
  all_goals simp
 cases d with
 | zero => exact hf
 | succ d =>
  unfold rightV;rw [hz,hf]
  repeat' split
  all_goals simp
theorem ok_impl (v : IVal) (hs : v.f2.size≤1048576) : Eve (fun k => Fw.f k v.f0 v.f1 v.f2) (rightV 5 v):=by
 simp only [Fw.f];exact Eve.bind (right_impl 5 v (by omega) hs) Eve.one
theorem ok_spec (v : IVal) (hs : v.f2.size≤1048576) : Eve (fun k => Fy.f k v.f0 v.f1 v.f2) (rightV 5 v):=by
 simp only [Fy.f];refine Eve.ite (fun _ => Eve.bind (right_spec 5 v (by omega) hs) Eve.one) (fun h => Eve.one.eq ?_);rw [right_small 5 v (by omega)]
theorem FnExactKeyOf : F00.Pure:=by
 rintro x desc ⟨_,_,hv⟩ _;refine Eve.get (g:=fun k => F00.f k x.f0 x.f1 x.f2 desc) ?_;simp only [F00.f];rw [szValue_tells x hv (by omega) (by omega)];simp only [Option.bind_some]
 by_cases h : (1048576 : Int) - x.f2.size<0
 ·
  rw [if_pos h];exact Eve.ite (fun _ => Eve.one) (fun h => absurd (by omega) h)
 rw [if_neg h];refine Eve.ite (fun _ => Eve.one) (fun _ => ?_);simp only [toValue_tells,Option.bind_some];have t1:=ok_spec (iv x) (by show x.f2.size≤_;omega);have t2:=ok_impl (iv x) (by show x.f2.size≤_;omega)
 cases hr : rightV 5 (iv x) with
 | false =>
  rw [hr] at t1 t2;refine Eve.bind (v:=((⟨#[]⟩ : ByteArray),(1 : Int))) ?_ (Eve.bind (v:=((⟨#[]⟩ : ByteArray),(1 : Int))) ?_ ?_)
  ·
   simp only [Ft.f]
   refine Eve.bind t1 ?_;simp only [Bool.false_eq_true,if_false];exact Eve.one
  ·
   simp only [Fq.f]
   refine Eve.bind t2 ?_;simp only [Bool.false_eq_true,if_false];exact Eve.one
  simp only [if_true];exact Eve.one
 | true =>
  rw [hr] at t1 t2;have a1:=key_spec hr desc;have a2:=keyOf_impl hr desc;refine Eve.bind (v:=(strOfNums (keyB (iv x) desc),(0 : Int))) ?_ (Eve.bind (v:=(strOfNums (keyB (iv x) desc),(0 : Int))) ?_ ?_)
  ·
   simp only [Ft.f]
   refine Eve.bind t1 ?_;simp only [if_true];exact Eve.bind a1 Eve.one
  ·
   simp only [Fq.f]
   refine Eve.bind t2 ?_;simp only [if_true];exact Eve.bind a2 Eve.one
  simp only [if_true];exact Eve.one
end Go.Proofs.Ytjaknpeeopkojaa.Pure
end
section
namespace Go.Proofs.Ytjaknpeeopkojaa.fnExactKeyOf
open Go.ChangeShapes Go.WideShapes Go.ChangeAt Go.RowKit Go.Proofs.YtjaknpeeopkojaaW.PrintWords Go.Proofs.YtjaknpeeopkojaaW.PrintOpen Go.Proofs.Ytjaknpeeopkojaa.Q
open Go.ChangeMaps (open_string shut_string)
set_option linter.unusedVariables false
theorem own : ownKnob Try.prog.godebug=none:=by kernel_rfl
theorem laidOut : laidOutB Try.prog=true:=by kernel_rfl
set_option maxRecDepth 100000 in
theorem lifted (os : Os) (started : os.Started) (H : Type) (enc : TypeId×Value→H) :
  ReturnsInHanded {} Try.checked os 3 .any (Rows.fnExactKeyOfSpec.pre6 enc Try.prog Try.f3 Rows.fnExactKeyOfRow.domain false) (Rows.fnExactKeyOfSpec.post enc Try.prog Try.f3 false true false false):=by
 refine returnsInHanded_of_change_sized (C:=Try.checked) own started (by kernel_rfl) Try.func3
  (ChangeSpec.witness6 (enc:=enc) (C:=Try.checked) false ⟨#[],#[.agg #[.int .i64 0,.int .i64 0,.string ByteArray.empty],.bool false],[]⟩ 8 (by kernel_rfl) (by kernel_rfl) (by kernel_rfl) (by kernel_rfl)) ?_
 intro W base args ds gs before hval0 hW hcnd hsz0 _
 have hval : ∀ (j : Nat) t v,Try.f3.params[j]? = some t→args[j]? = some v→Value.okWide Try.prog W .any base t v:=hval0
 have hW':=hW
 obtain ⟨p,q,hA0,hV,rfl,hfz,hnd⟩:=hW
 have hA : DataW.TrodAll enc Try.prog W 0 (fun _ => true) true Try.f3.params.toList args.toList ds p:=hA0
 rw [Try.params3] at hA hval
 obtain ⟨v0,vs0,d0,ds0,p0,q0,hargs,rfl,rfl,h0,r0⟩:=trodAll_cons hA
 obtain ⟨v1,vs1,d1,ds1,p1,q1,rfl,rfl,rfl,h1,r1⟩:=trodAll_cons r0
 obtain ⟨rfl,rfl,rfl⟩:=trodAll_nil r1
 obtain rfl : args = #[v0,v1]:=by cases args;simp_all
 obtain ⟨rfl,rfl⟩:=trodVars_none hV
 have t0:=h0
 have lt0 : ∀ x ∈ p0,x.block<W.heap.size:=by obtain ⟨m,hm⟩:=t0;exact DataW.trod_lt m _ _ _ hm
 obtain ⟨x0,cs0,rfl,K0,g0⟩:=arg_struct Try.underlying23 opens23 (hval 0 23 v0 rfl rfl) h0
 obtain rfl:=k23_open K0
 obtain ⟨x1,rfl,rfl,rfl⟩:=open_bool Try.underlying4 (hval 1 4 v1 rfl rfl) h1
 clear hA0 hval0 hsz0
 obtain ⟨k,hp⟩:=Pure.FnExactKeyOf x0 x1 g0 trivial
 refine (F00.calls k x0.f0 x0.f1 x0.f2 x1 true W  hp).mono fun e W' ⟨he,bel0⟩ => ?_
 have bel : Below W.heap.size W W':=bel0
 subst he
 exact ⟨_,rfl,_,_,_,[],_,[],hW',trodAll_mk1 (shut_bool Try.underlying4 _),(trodAll_cons_mk (Below.trod laidOut (by kernel_rfl) (of_decide_eq_true (by kernel_rfl)) t0 bel lt0) (trodAll_cons_mk (shut_bool Try.underlying4 _) trodAll_mk0)),rfl,bel.frame _,fun h => by cases h⟩
theorem over : Rows.fnExactKeyOfRow.holds Try.pinned (OpenSpec.ofChange Rows.fnExactKeyOfSpec) :=
 OpenClaim.holds_of_wide 3 Try.f3 rfl rfl rfl rfl rfl rfl rfl ⟨rfl,rfl,rfl,rfl,rfl⟩ rfl rfl rfl rfl rfl (by kernel_rfl) Try.func3 (by kernel_rfl)
  (of_decide_eq_true (by kernel_rfl)) (by unfold Func.isWrapper;first|(rw [if_pos (by decide +kernel)];kernel_rfl)|(rw [if_neg (by decide +kernel)];exact ⟨rfl,rfl⟩))
  (fun os started H enc _ => lifted os started H enc)
theorem proved : Rows.FnExactKeyOfSaid:=over
#print axioms proved
end Go.Proofs.Ytjaknpeeopkojaa.fnExactKeyOf
namespace Go.Proofs.Ytjaknpeeopkojaa
theorem fnExactKeyOf_holds : Rows.FnExactKeyOfSaid:=fnExactKeyOf.proved
end Go.Proofs.Ytjaknpeeopkojaa
end

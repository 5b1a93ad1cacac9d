/- Texts of this claim, merged by a program of this session. -/
import Derived.Test.YthjgfjlogilleabDoorKLawFnExactTermIntervalp25
import Derived.ProofKit
import Derived.OpenShut
import Derived.ShutString
import Derived.ChangeOld
import Derived.SizedLaws
import Derived.Deep.Slices
import Derived.Lib.SmallJoins
import Derived.Laws.Entries
section
namespace Go.Proofs.YthjgfjlogilleabDoor.Q
open Go.RowKit Go.Proofs.YthjgfjlogilleabDoorW.PrintWords Go.Proofs.YthjgfjlogilleabDoorW.PrintLast Go.Proofs.YthjgfjlogilleabDoorW.PrintMore
attribute [local go_sem] max2_int min2_int max_two min_two max_three min_three max_four min_four max2_str min2_str str_geq str_gtr str_leq   -- for this text's walks alone
set_option linter.unusedVariables false
set_option linter.unusedSimpArgs false

mutual
def F4.l0 : Nat→List Int→List (S31)→Int→Int→Option (List Int)
 | 0,_,_,_,_ => none
 | k + 1,x0,x51,x52,x53 => if x53<x52 then (if 0≤x53 then (if x53<(x51.length : Int) then ((F4.f k x0 ((rd_T31 x51 x53).f0) ((rd_T31 x51 x53).f1) ((rd_T31 x51 x53).f2)).bind fun t444 => (F4.l0 k t444 x51 x52 (wrap64 (x53 + 1)))) else (none)) else (none)) else (if x0.length<140737488355328 then (some (x0 ++ [0])) else (none))
def F4.l1 : Nat→List Int→List (S70)→Int→Int→Option (List Int)
 | 0,_,_,_,_ => none
 | k + 1,x0,x71,x72,x73 => if x73<x72 then (if 0≤x73 then (if x73<(x71.length : Int) then (if x0.length<140737488355328 then ((Fk.f k (x0 ++ [1]) ((rd_T70 x71 x73).f0)).bind fun t459 => ((F4.f k t459 ((rd_T70 x71 x73).f1.f0) ((rd_T70 x71 x73).f1.f1) ((rd_T70 x71 x73).f1.f2)).bind fun t462 => (F4.l1 k t462 x71 x72 (wrap64 (x73 + 1))))) else (none)) else (none)) else (none)) else (if x0.length<140737488355328 then (some (x0 ++ [0])) else (none))
def F4.f : Nat→List Int→Int→Int→ByteArray→Option (List Int)
 | 0,_,_,_,_ => none
 | k + 1,l0,a1_0,a1_1,a1_2 => if l0.length<140737488355328 then ((some (l0 ++ [(wrap64 (a1_0 + 1)) % 256] : List Int)).bind fun y423 => (if a1_0=1 then (if y423.length<140737488355328 then (some (y423 ++ [(a1_1) % 256])) else (none)) else (if a1_0=2 then ((Fp.f k (wrap64 (a1_1 + 4611686018427387904))).bind fun t429 => (if y423.length + t429.length<140737488355328 then (some (y423 ++ t429)) else (none))) else (if a1_0=3 then ((Fk.f k y423 a1_2).bind fun t435 => (some t435)) else (if a1_0=4 then ((Ff.f k a1_0 a1_1 a1_2).bind fun bt438 => (F4.l0 k y423 bt438.1 (bt438.1.length : Int) 0)) else (if a1_0=5 then ((F7.f k a1_0 a1_1 a1_2).bind fun bt450 => (F4.l1 k y423 bt450.1 (bt450.1.length : Int) 0)) else (some y423))))))) else (none)
end
theorem F4.mono_l : ∀ k,(∀ y0 y1 y2 y3,LeO (F4.f k y0 y1 y2 y3) (F4.f (k + 1) y0 y1 y2 y3))∧(∀ y0 y1 y2 y3,LeO (F4.l0 k y0 y1 y2 y3) (F4.l0 (k + 1) y0 y1 y2 y3))∧(∀ y0 y1 y2 y3,LeO (F4.l1 k y0 y1 y2 y3) (F4.l1 (k + 1) y0 y1 y2 y3))
 | 0 => ⟨fun _ _ _ _ r h => by simp [F4.f] at h,fun _ _ _ _ r h => by simp [F4.l0] at h,fun _ _ _ _ r h => by simp [F4.l1] at h⟩
 | k + 1 => by
  obtain ⟨ih0,ih1,ih2⟩:=F4.mono_l k;refine ⟨?_,?_,?_⟩
  ·
   intro y0 y1 y2 y3
   unfold F4.f
   repeat' first|(with_reducible first|exact ih0 _ _ _ _|exact ih1 _ _ _ _|exact ih2 _ _ _ _|exact Fp.mono _ _|exact Fk.mono _ _ _|exact Ff.mono _ _ _ _|exact F7.mono _ _ _ _|exact zQ _|exact zN _|refine zP ?_ ?_|refine zO ?_ (fun _ => ?_))|refine zP ?_ ?_|refine zO ?_ (fun _ => ?_)
  ·
   intro y0 y1 y2 y3
   unfold F4.l0
   repeat' first|(with_reducible first|exact ih0 _ _ _ _|exact ih1 _ _ _ _|exact ih2 _ _ _ _|exact Fp.mono _ _|exact Fk.mono _ _ _|exact Ff.mono _ _ _ _|exact F7.mono _ _ _ _|exact zQ _|exact zN _|refine zP ?_ ?_|refine zO ?_ (fun _ => ?_))|refine zP ?_ ?_|refine zO ?_ (fun _ => ?_)
  intro y0 y1 y2 y3;unfold F4.l1
  repeat' first|(with_reducible first|exact ih0 _ _ _ _|exact ih1 _ _ _ _|exact ih2 _ _ _ _|exact Fp.mono _ _|exact Fk.mono _ _ _|exact Ff.mono _ _ _ _|exact F7.mono _ _ _ _|exact zQ _|exact zN _|refine zP ?_ ?_|refine zO ?_ (fun _ => ?_))|refine zP ?_ ?_|refine zO ?_ (fun _ => ?_)
theorem F4.mono : ∀ a0 a1 a2 a3 k,LeO (F4.f k a0 a1 a2 a3) (F4.f (k + 1) a0 a1 a2 a3):=by
 intro a0 a1 a2 a3 k;obtain ⟨ih0,ih1,ih2⟩:=F4.mono_l k;exact ih0 a0 a1 a2 a3
def F4.T22 : Bool×List (List Nat×List Nat):=(true,[([],[]),([],[]),([0,1],[0,1]),([],[]),([3],[3]),([2,4,2],[2,4]),([],[]),([6],[6]),([5,7,5],[5,7]),([8,8,0,1,2,3,4,5,6,7,8],[0,8])])
def F4.B22 : List Nat:=[0,0,3,0,8,31,0,64,255,511]
theorem F4.tab22 : rtab .any (opsOf Tryd.f40 22)=F4.T22:=by kernel_rfl
theorem F4.bits22 : waitsOk F4.T22.2 F4.B22=true:=by kernel_rfl
set_option maxHeartbeats 8000000 in
set_option maxRecDepth 100000 in
theorem F4.calls (k : Nat) : ∀ (P0_ : Nat→Prop) (u9000_ : Value) (l0 : List Int) (a1_0 : Int) (a1_1 : Int) (a1_2 : ByteArray) (r : List Int) (w0 w : World) (hB : Below w0.heap.size w0 w) (ho0 : Kd.R (Kd.int .u8) 5 w w0.heap.size P0_ u9000_ l0) (h : F4.f k l0 a1_0 a1_1 a1_2=some r),
  Calls Tryd.prog 40 #[u9000_,.agg #[.int .i64 a1_0,.int .i64 a1_1,.string a1_2]] w fun e w' => ∃ v0_ : Value,e = .returned (v0_)∧Kd.R (Kd.int .u8) 5 w' w0.heap.size (fun k_ => (P0_ k_∨w.heap.size≤k_)) v0_ r∧Below w0.heap.size w0 w' ∧ Kept w w' (fun k_ => P0_ k_):=by
 induction k using Nat.strongRecOn with
 | _ k ih =>
 intro P0_ u9000_ l0 a1_0 a1_1 a1_2 r w0 w hB ho0 h
 cases k with
 | zero => exact absurd h (by simp [F4.f])
 | succ k =>
 simp only [F4.f] at h;have hu31:=Tryd.underlying31;have hu70:=Tryd.underlying70;have HO0:=zh (show Kd.R (Kd.int .u8) 5 w w0.heap.size (fun k_ => (P0_ k_∨w.heap.size≤k_)) u9000_ l0 from zM ho0 (fun k_ hk => (.inl hk)));have HK:=zh (Kept.refl w (fun k_ => P0_ k_));have HW0:=zh hB.size;have HB:=zh hB;clear hB;have H : (if l0.length<140737488355328 then ((some (l0 ++ [(wrap64 (a1_0 + 1)) % 256] : List Int)).bind fun y423 => (if a1_0=1 then (if y423.length<140737488355328 then (some (y423 ++ [(a1_1) % 256])) else (none)) else (if a1_0=2 then ((Fp.f k (wrap64 (a1_1 + 4611686018427387904))).bind fun t429 => (if y423.length + t429.length<140737488355328 then (some (y423 ++ t429)) else (none))) else (if a1_0=3 then ((Fk.f k y423 a1_2).bind fun t435 => (some t435)) else (if a1_0=4 then ((Ff.f k a1_0 a1_1 a1_2).bind fun bt438 => (F4.l0 k y423 bt438.1 (bt438.1.length : Int) 0)) else (if a1_0=5 then ((F7.f k a1_0 a1_1 a1_2).bind fun bt450 => (F4.l1 k y423 bt450.1 (bt450.1.length : Int) 0)) else (some y423))))))) else (none))=some r:=h;clear h
 by_cases c3 : l0.length<140737488355328
 ·
  rw [if_pos c3] at H
  have LMc3:=zh c3;clear c3;obtain ⟨y423,hy423⟩ : ∃ y_ : List Int,y_=(l0 ++ [(wrap64 (a1_0 + 1)) % 256]):=⟨_,rfl⟩;replace H : (if a1_0=1 then (if y423.length<140737488355328 then (some (y423 ++ [(a1_1) % 256])) else (none)) else (if a1_0=2 then ((Fp.f k (wrap64 (a1_1 + 4611686018427387904))).bind fun t429 => (if y423.length + t429.length<140737488355328 then (some (y423 ++ t429)) else (none))) else (if a1_0=3 then ((Fk.f k y423 a1_2).bind fun t435 => (some t435)) else (if a1_0=4 then ((Ff.f k a1_0 a1_1 a1_2).bind fun bt438 => (F4.l0 k y423 bt438.1 (bt438.1.length : Int) 0)) else (if a1_0=5 then ((F7.f k a1_0 a1_1 a1_2).bind fun bt450 => (F4.l1 k y423 bt450.1 (bt450.1.length : Int) 0)) else (some y423))))))=some r:=by first|(rw [hy423];with_reducible exact H)|(have H2_:=(Option.bind_some _ _).symm.trans H;rw [hy423];with_reducible exact H2_)|(have H2_:=(Option.bind_some _ _).symm.trans H;with_reducible exact H2_)|with_reducible exact H|(rw [hy423];exact H)|exact H
  have Ny423:=zh hy423;clear hy423
  by_cases c4 : a1_0=1
  ·
   rw [if_pos c4] at H
   have c4b0 : (a1_0 == 1)=true:=ya.mpr c4;have c4b1 : (a1_0 != 1)=false:=zX.mpr c4;clear c4
   by_cases c5 : y423.length<140737488355328
   ·
    rw [if_pos c5] at H
    have LMc5:=zh c5;clear c5;obtain ⟨y426,hy426⟩ : ∃ y_ : List Int,y_=(y423 ++ [(a1_1) % 256]):=⟨_,rfl⟩;replace H : (some y426)=some r:=by first|(rw [hy426];with_reducible exact H)|(have H2_:=(Option.bind_some _ _).symm.trans H;rw [hy426];with_reducible exact H2_)|(have H2_:=(Option.bind_some _ _).symm.trans H;with_reducible exact H2_)|with_reducible exact H|(rw [hy426];exact H)|exact H
    have Ny426:=zh hy426;clear hy426;obtain rfl:=zU H
    go_enter Tryd.func40,Tryd.ntmps40
    go_wp2_with (first|((with_reducible refine zK (N:=3) rfl ?_);refine zI ?hg (N:=3) ?hd (cs:=#[.int .i64 a1_0,.int .i64 a1_1,.string a1_2]) (t:=31) ?hr ?_;(case hd|hg => rfl);(case hr => go_simp <;> rfl);intro gb422 hg w6 hbox hb;replace HO0:=zh (yg (by (with_reducible repeat (first|apply zm|apply zn|apply zo));exact HO0.out) hb);have BK422:=zh (hbox);have GW422:=zh ((by rw [hg];exact (by first|exact HK.out.1|exact (show Kept w _ (fun k_ => P0_ k_) from by repeat (with_reducible first|exact HK.out|apply zr|apply zp|apply zq)).1) : w.heap.size≤gb422));replace HK:=zh (Kept.below (S:=(fun k_ => P0_ k_)) (by repeat (with_reducible first|exact HK.out|apply zr|apply zp|apply zq)) hb);have GE422:=zh ((by rw [hg];exact (zB (by repeat (with_reducible first|exact HB.out|apply za|apply zb|apply zc))) : w0.heap.size≤gb422));replace HB:=zh (zC (by repeat (with_reducible first|exact HB.out|apply za|apply zb|apply zc)) hb);clear hb hbox hg;obtain ⟨hcz7_0,hcz7_1,hcz7_2,hfz7_0,hfz7_1,hfz7_2⟩:=cB3 BK422.out)|((with_reducible refine yB (b:=.append) (xs:=#[.tmp 13,.tmp 18]) rfl ?_);at_builtin;refine Kd.R_append (Kd.int .u8) (w0:=w0) w0.heap.size rfl (.tmp 13) (.tmp 18) 51 5 (.int .u8 0) 1 rfl Tryd.underlying51 info5 rfl (by decide) (by omega) u9000_ l0 ((wrap64 (a1_0 + 1)) % 256) [.int .u8 ((wrap64 (a1_0 + 1)) % 256)] (fun k_ => (P0_ k_∨w.heap.size≤k_)) (fun _ => False) rfl rfl ?aP (fun _ hk => hk.elim) ?aF ?aO ?aB ?aS ?aL ?_;(case aP => exact rfl);(case aB => exact (by repeat (with_reducible first|exact HB.out|apply za|apply zb|apply zc|refine zd ?_ GE422.out)));(case aF => exact (fun k_ hk => (.inr (Nat.le_trans (by first|exact HK.out.1|exact (show Kept w _ (fun k_ => P0_ k_) from by repeat (with_reducible first|exact HK.out|apply zr|apply zp|apply zq|refine zs ?_ (.inr GW422.out) _)).1) hk))));(case aO => exact (by (with_reducible repeat (first|apply zm|apply zn|apply zo));exact HO0.out));(case aS => exact (zB (by repeat (with_reducible first|exact HB.out|apply za|apply zb|apply zc|refine zd ?_ GE422.out))));(case aL => have:=LMc3.out;omega);intro v424 w8 ho hb hg hat;rw [← Ny423.out] at ho;replace BK422:=zh (yw (g:=gb422) (o:=.cells #[.int .i64 a1_0,.int .i64 a1_1,.string a1_2] 31 (0,0)) (by (with_reducible repeat first|apply ze|apply zf|apply zg);exact BK422.out) hg (Kd.R_ne HO0.out BK422.out (by decide)));replace HB:=zh (hb);replace HK:=zh (yA (S:=(fun k_ => P0_ k_)) hg (by repeat (with_reducible first|exact HK.out|apply zr|apply zp|apply zq|refine zs ?_ (.inr GW422.out) _)) (fun k_ e_ => (HO0.out.1 k_ e_)));have HO425:=zh (ho);clear HO0 ho hb hg hat;obtain ⟨hcz9_0,hcz9_1,hcz9_2,hfz9_0,hfz9_1,hfz9_2⟩:=cB3 BK422.out)|((with_reducible refine yB (b:=.append) (xs:=#[.tmp 24,.tmp 28]) rfl ?_);at_builtin;refine Kd.R_append (Kd.int .u8) (w0:=w0) w0.heap.size rfl (.tmp 24) (.tmp 28) 51 5 (.int .u8 0) 1 rfl Tryd.underlying51 info5 rfl (by decide) (by omega) v424 y423 ((a1_1) % 256) [.int .u8 ((a1_1) % 256)] (fun k_ => (P0_ k_∨w.heap.size≤k_)) (fun _ => False) rfl rfl ?aP (fun _ hk => hk.elim) ?aF ?aO ?aB ?aS ?aL ?_;(case aP => exact rfl);(case aB => exact (by repeat (with_reducible first|exact HB.out|apply za|apply zb|apply zc|refine zd ?_ GE422.out)));(case aF => exact (fun k_ hk => (.inr (Nat.le_trans (by first|exact HK.out.1|exact (show Kept w _ (fun k_ => P0_ k_) from by repeat (with_reducible first|exact HK.out|apply zr|apply zp|apply zq|refine zs ?_ (.inr GW422.out) _)).1) hk))));(case aO => exact (by (with_reducible repeat (first|apply zm|apply zn|apply zo));exact HO425.out));(case aS => exact (zB (by repeat (with_reducible first|exact HB.out|apply za|apply zb|apply zc|refine zd ?_ GE422.out))));(case aL => have:=LMc5.out;omega);intro v427 w10 ho hb hg hat;rw [← Ny426.out] at ho;replace BK422:=zh (yw (g:=gb422) (o:=.cells #[.int .i64 a1_0,.int .i64 a1_1,.string a1_2] 31 (0,0)) (by (with_reducible repeat first|apply ze|apply zf|apply zg);exact BK422.out) hg (Kd.R_ne HO425.out BK422.out (by decide)));replace HB:=zh (hb);replace HK:=zh (yA (S:=(fun k_ => P0_ k_)) hg (by repeat (with_reducible first|exact HK.out|apply zr|apply zp|apply zq|refine zs ?_ (.inr GW422.out) _)) (fun k_ e_ => (HO425.out.1 k_ e_)));have HO428:=zh (ho);clear HO425 ho hb hg hat))
    go_ret
    exact ⟨_,by first|rfl|(simp [yt,yu] <;> rfl)|(simp [*,yt,yu] <;> rfl),by (with_reducible repeat (first|apply zm|apply zn|apply zo));exact HO428.out,by repeat (with_reducible first|exact HB.out|apply za|apply zb|apply zc|refine zd ?_ GE422.out),by repeat (with_reducible first|exact HK.out|apply zr|apply zp|apply zq|refine zs ?_ (.inr GW422.out) _)⟩
   rw [if_neg c5] at H;exact absurd H (by simp)
  rw [if_neg c4] at H;have c4b0 : (a1_0 == 1)=false:=zY.mpr c4;have c4b1 : (a1_0 != 1)=true:=zZ.mpr c4
  by_cases c11 : a1_0=2
  ·
   rw [if_pos c11] at H
   have c11b0 : (a1_0 == 2)=true:=ya.mpr c11;have c11b1 : (a1_0 != 2)=false:=zX.mpr c11;clear c11;replace H:=zT.mp H;obtain ⟨t429,A120,H⟩:=H;replace H : (if y423.length + t429.length<140737488355328 then (some (y423 ++ t429)) else (none))=some r:=H;have A12:=zh A120;clear A120
   by_cases c13 : y423.length + t429.length<140737488355328
   ·
    rw [if_pos c13] at H
    have LMc13:=zh c13;clear c13;obtain ⟨y432,hy432⟩ : ∃ y_ : List Int,y_=(y423 ++ t429):=⟨_,rfl⟩;replace H : (some y432)=some r:=by first|(rw [hy432];with_reducible exact H)|(have H2_:=(Option.bind_some _ _).symm.trans H;rw [hy432];with_reducible exact H2_)|(have H2_:=(Option.bind_some _ _).symm.trans H;with_reducible exact H2_)|with_reducible exact H|(rw [hy432];exact H)|exact H
    have Ny432:=zh hy432;clear hy432;obtain rfl:=zU H
    go_enter Tryd.func40,Tryd.ntmps40
    go_wp2_with (first|((with_reducible refine zK (N:=3) rfl ?_);refine zI ?hg (N:=3) ?hd (cs:=#[.int .i64 a1_0,.int .i64 a1_1,.string a1_2]) (t:=31) ?hr ?_;(case hd|hg => rfl);(case hr => go_simp <;> rfl);intro gb422 hg w14 hbox hb;replace HO0:=zh (yg (by (with_reducible repeat (first|apply zm|apply zn|apply zo));exact HO0.out) hb);have BK422:=zh (hbox);have GW422:=zh ((by rw [hg];exact (by first|exact HK.out.1|exact (show Kept w _ (fun k_ => P0_ k_) from by repeat (with_reducible first|exact HK.out|apply zr|apply zp|apply zq)).1) : w.heap.size≤gb422));replace HK:=zh (Kept.below (S:=(fun k_ => P0_ k_)) (by repeat (with_reducible first|exact HK.out|apply zr|apply zp|apply zq)) hb);have GE422:=zh ((by rw [hg];exact (zB (by repeat (with_reducible first|exact HB.out|apply za|apply zb|apply zc))) : w0.heap.size≤gb422));replace HB:=zh (zC (by repeat (with_reducible first|exact HB.out|apply za|apply zb|apply zc)) hb);clear hb hbox hg;obtain ⟨hcz15_0,hcz15_1,hcz15_2,hfz15_0,hfz15_1,hfz15_2⟩:=cB3 BK422.out)|((with_reducible refine yB (b:=.append) (xs:=#[.tmp 13,.tmp 18]) rfl ?_);at_builtin;refine Kd.R_append (Kd.int .u8) (w0:=w0) w0.heap.size rfl (.tmp 13) (.tmp 18) 51 5 (.int .u8 0) 1 rfl Tryd.underlying51 info5 rfl (by decide) (by omega) u9000_ l0 ((wrap64 (a1_0 + 1)) % 256) [.int .u8 ((wrap64 (a1_0 + 1)) % 256)] (fun k_ => (P0_ k_∨w.heap.size≤k_)) (fun _ => False) rfl rfl ?aP (fun _ hk => hk.elim) ?aF ?aO ?aB ?aS ?aL ?_;(case aP => exact rfl);(case aB => exact (by repeat (with_reducible first|exact HB.out|apply za|apply zb|apply zc|refine zd ?_ GE422.out)));(case aF => exact (fun k_ hk => (.inr (Nat.le_trans (by first|exact HK.out.1|exact (show Kept w _ (fun k_ => P0_ k_) from by repeat (with_reducible first|exact HK.out|apply zr|apply zp|apply zq|refine zs ?_ (.inr GW422.out) _)).1) hk))));(case aO => exact (by (with_reducible repeat (first|apply zm|apply zn|apply zo));exact HO0.out));(case aS => exact (zB (by repeat (with_reducible first|exact HB.out|apply za|apply zb|apply zc|refine zd ?_ GE422.out))));(case aL => have:=LMc3.out;omega);intro v424 w16 ho hb hg hat;rw [← Ny423.out] at ho;replace BK422:=zh (yw (g:=gb422) (o:=.cells #[.int .i64 a1_0,.int .i64 a1_1,.string a1_2] 31 (0,0)) (by (with_reducible repeat first|apply ze|apply zf|apply zg);exact BK422.out) hg (Kd.R_ne HO0.out BK422.out (by decide)));replace HB:=zh (hb);replace HK:=zh (yA (S:=(fun k_ => P0_ k_)) hg (by repeat (with_reducible first|exact HK.out|apply zr|apply zp|apply zq|refine zs ?_ (.inr GW422.out) _)) (fun k_ e_ => (HO0.out.1 k_ e_)));have HO425:=zh (ho);clear HO0 ho hb hg hat;obtain ⟨hcz17_0,hcz17_1,hcz17_2,hfz17_0,hfz17_1,hfz17_2⟩:=cB3 BK422.out)|((with_reducible refine zJ (f:=52) rfl ?_);refine yj (some 36) rfl rfl Tryd.func52 (by kernel_rfl) rfl #[.int .i64 (wrap64 (a1_1 + 4611686018427387904))] rfl (by (try simp only [zt,zu,zv]);first|done|rfl|(simp only [zw,zx];rfl)|(simp only [yr,ys,zV,zW];rfl)) ?_;(with_reducible refine (Fp.calls k  (wrap64 (a1_1 + 4611686018427387904)) t429 _ A12.out).mono ?_);rintro e w18 ⟨v430,rfl,ho0,hb⟩;refine ⟨_,rfl,?_⟩;have HO431:=zh (yy (Kd.R_new' (Kd.R_newM (M:=fun k_ => (P0_ k_∨w.heap.size≤k_)) ho0 (by first|exact HK.out.1|exact (show Kept w _ (fun k_ => P0_ k_) from by repeat (with_reducible first|exact HK.out|apply zr|apply zp|apply zq|refine zs ?_ (.inr GW422.out) _)).1) (fun k_ h_ => .inr h_)) (Kd.R_lt (by (with_reducible repeat (first|apply zm|apply zn|apply zo));exact HO425.out))) (zB (by repeat (with_reducible first|exact HB.out|apply za|apply zb|apply zc|refine zd ?_ GE422.out))));replace HO425:=zh (Kd.R_elder' (by (with_reducible repeat (first|apply zm|apply zn|apply zo));exact HO425.out) (Kd.R_base ho0) hb);replace BK422:=zh (cD BK422.out (by (with_reducible repeat first|apply ze|apply zf|apply zg);exact BK422.out) hb);replace HK:=zh (Kept.below (S:=(fun k_ => P0_ k_)) (by repeat (with_reducible first|exact HK.out|apply zr|apply zp|apply zq|refine zs ?_ (.inr GW422.out) _)) hb);replace HB:=zh (zC (by repeat (with_reducible first|exact HB.out|apply za|apply zb|apply zc|refine zd ?_ GE422.out)) hb);(try clear hb);(try clear hb2);(try clear hk);(try clear hi);(try clear ho0);obtain ⟨Ao20,co20,eo20⟩:=yk HO431.out;subst eo20)|((with_reducible refine yB (b:=.append) (xs:=#[.tmp 32,.tmp 36]) rfl ?_);at_builtin;refine Kd.R_append_rows (Kd.int .u8) (w0:=w0) w0.heap.size rfl (.tmp 32) (.tmp 36) 51 5 (.int .u8 0) 1 rfl Tryd.underlying51 info5 rfl (by decide) (by omega) v424 y423 t429 _ _ _ (fun k_ => (P0_ k_∨w.heap.size≤k_)∧some k_≠(.slice Ao20 t429.length co20 : Value).ownBlock) (fun _ => False) rfl rfl ?aO ?aR (fun _ _ h => h) (fun _ h => h.elim) ?aF ?aB ?aS ?aL ?_;(case aR => repeat (first|exact (yh HO431.out).2.2|(with_reducible refine Kd.C_alloc ?_ _)|(with_reducible refine Kd.C_drewN ?_ _)|(with_reducible refine Kd.C_drew ?_)));(case aB => exact (by repeat (with_reducible first|exact HB.out|apply za|apply zb|apply zc|refine zd ?_ GE422.out)));(case aF => exact (fun k_ hk => ⟨(.inr (Nat.le_trans (by first|exact HK.out.1|exact (show Kept w _ (fun k_ => P0_ k_) from by repeat (with_reducible first|exact HK.out|apply zr|apply zp|apply zq|refine zs ?_ (.inr GW422.out) _)).1) hk)),Kd.fresh' (Kd.R_lt (by (with_reducible repeat (first|apply zm|apply zn|apply zo));exact HO431.out)) k_ hk⟩));(case aO => exact (by (with_reducible repeat (first|apply zm|apply zn|apply zo));exact HO425.out));(case aS => exact (zB (by repeat (with_reducible first|exact HB.out|apply za|apply zb|apply zc|refine zd ?_ GE422.out))));(case aL => have:=LMc13.out;omega);intro v433 w19 ho hb hg hat;rw [← Ny432.out] at ho;replace BK422:=zh (yw (g:=gb422) (o:=.cells #[.int .i64 a1_0,.int .i64 a1_1,.string a1_2] 31 (0,0)) (by (with_reducible repeat first|apply ze|apply zf|apply zg);exact BK422.out) hg (Kd.R_ne HO425.out BK422.out (by decide)));replace HO431:=zh (Kd.R_after (ok:=(fun k_ => (P0_ k_∨w.heap.size≤k_))) (by (with_reducible repeat (first|apply zm|apply zn|apply zo));exact zM HO431.out (fun _ hk => ⟨hk.1.1,hk.2⟩)) hg hat);replace HB:=zh (hb);replace HK:=zh (yA (S:=(fun k_ => P0_ k_)) hg (by repeat (with_reducible first|exact HK.out|apply zr|apply zp|apply zq|refine zs ?_ (.inr GW422.out) _)) (fun k_ e_ => (HO425.out.1 k_ e_).1));have HO434:=zh (ho);clear HO425 ho hb hg hat))
    go_ret
    exact ⟨_,by first|rfl|(simp [yt,yu] <;> rfl)|(simp [*,yt,yu] <;> rfl),by (with_reducible repeat (first|apply zm|apply zn|apply zo));exact zM HO434.out (fun _ hk => hk.1),by repeat (with_reducible first|exact HB.out|apply za|apply zb|apply zc|refine zd ?_ GE422.out),by repeat (with_reducible first|exact HK.out|apply zr|apply zp|apply zq|refine zs ?_ (.inr GW422.out) _)⟩
   rw [if_neg c13] at H;exact absurd H (by simp)
  rw [if_neg c11] at H;have c11b0 : (a1_0 == 2)=false:=zY.mpr c11;have c11b1 : (a1_0 != 2)=true:=zZ.mpr c11
  by_cases c21 : a1_0=3
  ·
   rw [if_pos c21] at H
   have c21b0 : (a1_0 == 3)=true:=ya.mpr c21;have c21b1 : (a1_0 != 3)=false:=zX.mpr c21;clear c21;replace H:=zT.mp H;obtain ⟨t435,A220,H⟩:=H;replace H : (some t435)=some r:=H;have A22:=zh A220;clear A220;obtain rfl:=zU H
   go_enter Tryd.func40,Tryd.ntmps40
   go_wp2_with (first|((with_reducible refine zK (N:=3) rfl ?_);refine zI ?hg (N:=3) ?hd (cs:=#[.int .i64 a1_0,.int .i64 a1_1,.string a1_2]) (t:=31) ?hr ?_;(case hd|hg => rfl);(case hr => go_simp <;> rfl);intro gb422 hg w23 hbox hb;replace HO0:=zh (yg (by (with_reducible repeat (first|apply zm|apply zn|apply zo));exact HO0.out) hb);have BK422:=zh (hbox);have GW422:=zh ((by rw [hg];exact (by first|exact HK.out.1|exact (show Kept w _ (fun k_ => P0_ k_) from by repeat (with_reducible first|exact HK.out|apply zr|apply zp|apply zq)).1) : w.heap.size≤gb422));replace HK:=zh (Kept.below (S:=(fun k_ => P0_ k_)) (by repeat (with_reducible first|exact HK.out|apply zr|apply zp|apply zq)) hb);have GE422:=zh ((by rw [hg];exact (zB (by repeat (with_reducible first|exact HB.out|apply za|apply zb|apply zc))) : w0.heap.size≤gb422));replace HB:=zh (zC (by repeat (with_reducible first|exact HB.out|apply za|apply zb|apply zc)) hb);clear hb hbox hg;obtain ⟨hcz24_0,hcz24_1,hcz24_2,hfz24_0,hfz24_1,hfz24_2⟩:=cB3 BK422.out)|((with_reducible refine yB (b:=.append) (xs:=#[.tmp 13,.tmp 18]) rfl ?_);at_builtin;refine Kd.R_append (Kd.int .u8) (w0:=w0) w0.heap.size rfl (.tmp 13) (.tmp 18) 51 5 (.int .u8 0) 1 rfl Tryd.underlying51 info5 rfl (by decide) (by omega) u9000_ l0 ((wrap64 (a1_0 + 1)) % 256) [.int .u8 ((wrap64 (a1_0 + 1)) % 256)] (fun k_ => (P0_ k_∨w.heap.size≤k_)) (fun _ => False) rfl rfl ?aP (fun _ hk => hk.elim) ?aF ?aO ?aB ?aS ?aL ?_;(case aP => exact rfl);(case aB => exact (by repeat (with_reducible first|exact HB.out|apply za|apply zb|apply zc|refine zd ?_ GE422.out)));(case aF => exact (fun k_ hk => (.inr (Nat.le_trans (by first|exact HK.out.1|exact (show Kept w _ (fun k_ => P0_ k_) from by repeat (with_reducible first|exact HK.out|apply zr|apply zp|apply zq|refine zs ?_ (.inr GW422.out) _)).1) hk))));(case aO => exact (by (with_reducible repeat (first|apply zm|apply zn|apply zo));exact HO0.out));(case aS => exact (zB (by repeat (with_reducible first|exact HB.out|apply za|apply zb|apply zc|refine zd ?_ GE422.out))));(case aL => have:=LMc3.out;omega);intro v424 w25 ho hb hg hat;rw [← Ny423.out] at ho;replace BK422:=zh (yw (g:=gb422) (o:=.cells #[.int .i64 a1_0,.int .i64 a1_1,.string a1_2] 31 (0,0)) (by (with_reducible repeat first|apply ze|apply zf|apply zg);exact BK422.out) hg (Kd.R_ne HO0.out BK422.out (by decide)));replace HB:=zh (hb);replace HK:=zh (yA (S:=(fun k_ => P0_ k_)) hg (by repeat (with_reducible first|exact HK.out|apply zr|apply zp|apply zq|refine zs ?_ (.inr GW422.out) _)) (fun k_ e_ => (HO0.out.1 k_ e_)));have HO425:=zh (ho);clear HO0 ho hb hg hat;obtain ⟨hcz26_0,hcz26_1,hcz26_2,hfz26_0,hfz26_1,hfz26_2⟩:=cB3 BK422.out;obtain ⟨Ao27,co27,eo27⟩:=yk HO425.out;subst eo27)|((with_reducible refine zJ (f:=53) rfl ?_);refine yj (some 43) rfl rfl Tryd.func53 (by kernel_rfl) rfl #[.slice Ao27 y423.length co27,.string a1_2] rfl (by (try simp only [zt,zu,zv]);first|done|rfl|(simp only [zw,zx];rfl)|(simp only [yr,ys,zV,zW];rfl)) ?_;(with_reducible refine (Fk.calls k  (fun k_ => some k_=(.slice Ao27 y423.length co27 : Value).ownBlock) (.slice Ao27 y423.length co27) y423 a1_2 t435 w0 _ ?side1 ?side2 A22.out).mono ?_);(case side1 => repeat (with_reducible first|exact HB.out|apply za|apply zb|apply zc|refine zd ?_ GE422.out));(case side2 => exact Kd.R_tight rfl HO425.out);rintro e w28 ⟨v436,rfl,ho0,hb,hkp⟩;refine ⟨_,rfl,?_⟩;replace BK422:=zh (blk_kept (by (with_reducible repeat first|apply ze|apply zf|apply zg);exact BK422.out) hkp (fun hs_ => (fun e_ => (Kd.R_ne HO425.out BK422.out (by decide)) e_) hs_));have HO437:=zh (zM (ok':=fun k_ => (P0_ k_∨w.heap.size≤k_)) ho0 (fun k_ hk_ => Or.elim hk_ (fun hs_ => (HO425.out.1 k_ (hs_).symm)) (fun hn_ => (.inr (Nat.le_trans (by first|exact HK.out.1|exact (show Kept w _ (fun k_ => P0_ k_) from by repeat (with_reducible first|exact HK.out|apply zr|apply zp|apply zq|refine zs ?_ (.inr GW422.out) _)).1) hn_)))));replace HK:=zh (Kept.then_ (S:=(fun k_ => P0_ k_)) (by repeat (with_reducible first|exact HK.out|apply zr|apply zp|apply zq|refine zs ?_ (.inr GW422.out) _)) hkp (fun k_ hs_ => (fun e_ => (HO425.out.1 k_ e_.symm)) hs_));replace HB:=zh (hb);clear HO425;(try clear hb);(try clear hkp);(try clear ho0)))
   go_ret
   exact ⟨_,by first|rfl|(simp [yt,yu] <;> rfl)|(simp [*,yt,yu] <;> rfl),by (with_reducible repeat (first|apply zm|apply zn|apply zo));exact HO437.out,by repeat (with_reducible first|exact HB.out|apply za|apply zb|apply zc|refine zd ?_ GE422.out),by repeat (with_reducible first|exact HK.out|apply zr|apply zp|apply zq|refine zs ?_ (.inr GW422.out) _)⟩
  rw [if_neg c21] at H;have c21b0 : (a1_0 == 3)=false:=zY.mpr c21;have c21b1 : (a1_0 != 3)=true:=zZ.mpr c21
  by_cases c29 : a1_0=4
  ·
   rw [if_pos c29] at H
   have c29b0 : (a1_0 == 4)=true:=ya.mpr c29;have c29b1 : (a1_0 != 4)=false:=zX.mpr c29;clear c29;replace H:=zT.mp H;obtain ⟨⟨t438,t441⟩,A300,H⟩:=H;replace H : (F4.l0 k y423 t438 (t438.length : Int) 0)=some r:=H;have A30:=zh A300;clear A300;have H':=zh H;clear H
   go_enter Tryd.func40,Tryd.ntmps40
   go_wp2_with (first|((with_reducible refine zK (N:=3) rfl ?_);refine zI ?hg (N:=3) ?hd (cs:=#[.int .i64 a1_0,.int .i64 a1_1,.string a1_2]) (t:=31) ?hr ?_;(case hd|hg => rfl);(case hr => go_simp <;> rfl);intro gb422 hg w31 hbox hb;replace HO0:=zh (yg (by (with_reducible repeat (first|apply zm|apply zn|apply zo));exact HO0.out) hb);have BK422:=zh (hbox);have GW422:=zh ((by rw [hg];exact (by first|exact HK.out.1|exact (show Kept w _ (fun k_ => P0_ k_) from by repeat (with_reducible first|exact HK.out|apply zr|apply zp|apply zq)).1) : w.heap.size≤gb422));replace HK:=zh (Kept.below (S:=(fun k_ => P0_ k_)) (by repeat (with_reducible first|exact HK.out|apply zr|apply zp|apply zq)) hb);have GE422:=zh ((by rw [hg];exact (zB (by repeat (with_reducible first|exact HB.out|apply za|apply zb|apply zc))) : w0.heap.size≤gb422));replace HB:=zh (zC (by repeat (with_reducible first|exact HB.out|apply za|apply zb|apply zc)) hb);clear hb hbox hg;obtain ⟨hcz32_0,hcz32_1,hcz32_2,hfz32_0,hfz32_1,hfz32_2⟩:=cB3 BK422.out)|((with_reducible refine yB (b:=.append) (xs:=#[.tmp 13,.tmp 18]) rfl ?_);at_builtin;refine Kd.R_append (Kd.int .u8) (w0:=w0) w0.heap.size rfl (.tmp 13) (.tmp 18) 51 5 (.int .u8 0) 1 rfl Tryd.underlying51 info5 rfl (by decide) (by omega) u9000_ l0 ((wrap64 (a1_0 + 1)) % 256) [.int .u8 ((wrap64 (a1_0 + 1)) % 256)] (fun k_ => (P0_ k_∨w.heap.size≤k_)) (fun _ => False) rfl rfl ?aP (fun _ hk => hk.elim) ?aF ?aO ?aB ?aS ?aL ?_;(case aP => exact rfl);(case aB => exact (by repeat (with_reducible first|exact HB.out|apply za|apply zb|apply zc|refine zd ?_ GE422.out)));(case aF => exact (fun k_ hk => (.inr (Nat.le_trans (by first|exact HK.out.1|exact (show Kept w _ (fun k_ => P0_ k_) from by repeat (with_reducible first|exact HK.out|apply zr|apply zp|apply zq|refine zs ?_ (.inr GW422.out) _)).1) hk))));(case aO => exact (by (with_reducible repeat (first|apply zm|apply zn|apply zo));exact HO0.out));(case aS => exact (zB (by repeat (with_reducible first|exact HB.out|apply za|apply zb|apply zc|refine zd ?_ GE422.out))));(case aL => have:=LMc3.out;omega);intro v424 w33 ho hb hg hat;rw [← Ny423.out] at ho;replace BK422:=zh (yw (g:=gb422) (o:=.cells #[.int .i64 a1_0,.int .i64 a1_1,.string a1_2] 31 (0,0)) (by (with_reducible repeat first|apply ze|apply zf|apply zg);exact BK422.out) hg (Kd.R_ne HO0.out BK422.out (by decide)));replace HB:=zh (hb);replace HK:=zh (yA (S:=(fun k_ => P0_ k_)) hg (by repeat (with_reducible first|exact HK.out|apply zr|apply zp|apply zq|refine zs ?_ (.inr GW422.out) _)) (fun k_ e_ => (HO0.out.1 k_ e_)));have HO425:=zh (ho);clear HO0 ho hb hg hat;obtain ⟨hcz34_0,hcz34_1,hcz34_2,hfz34_0,hfz34_1,hfz34_2⟩:=cB3 BK422.out)|((with_reducible refine zJ (f:=54) rfl ?_);refine yj (some 48) rfl rfl Tryd.func54 (by kernel_rfl) rfl #[.agg #[.int .i64 a1_0,.int .i64 a1_1,.string a1_2]] rfl (by (try simp only [zt,zu,zv]);first|done|rfl|(simp only [zw,zx];rfl)|(simp only [yr,ys,zV,zW];rfl)) ?_;(with_reducible refine (Ff.calls k  a1_0 a1_1 a1_2 t438 t441 _ A30.out).mono ?_);rintro e w35 ⟨v439,rfl,ho0,hb⟩;refine ⟨_,rfl,?_⟩;replace HO425:=zh (yg (by (with_reducible repeat (first|apply zm|apply zn|apply zo));exact HO425.out) hb);have HO440:=zh (yy (Kd.R_newB (Kd.R_newM (M:=fun k_ => (P0_ k_∨w.heap.size≤k_)) ho0 (by first|exact HK.out.1|exact (show Kept w _ (fun k_ => P0_ k_) from by repeat (with_reducible first|exact HK.out|apply zr|apply zp|apply zq|refine zs ?_ (.inr GW422.out) _)).1) (fun k_ h_ => .inr h_)) (g:=gb422) (o:=.cells #[.int .i64 a1_0,.int .i64 a1_1,.string a1_2] 31 (0,0)) (by (with_reducible repeat first|apply ze|apply zf|apply zg);exact BK422.out)) (zB (by repeat (with_reducible first|exact HB.out|apply za|apply zb|apply zc|refine zd ?_ GE422.out))));replace BK422:=zh (cD BK422.out (by (with_reducible repeat first|apply ze|apply zf|apply zg);exact BK422.out) hb);replace HK:=zh (Kept.below (S:=(fun k_ => P0_ k_)) (by repeat (with_reducible first|exact HK.out|apply zr|apply zp|apply zq|refine zs ?_ (.inr GW422.out) _)) hb);replace HB:=zh (zC (by repeat (with_reducible first|exact HB.out|apply za|apply zb|apply zc|refine zd ?_ GE422.out)) hb);(try clear hb);(try clear hb2);(try clear hk);(try clear hi);(try clear ho0);obtain ⟨Ao36,co36,eo36⟩:=yk HO440.out;subst eo36))
   go_loopg [0,53] k (fun kq v0 v53 w' => ∃ (x0_1 : List Int) (x53_1 : Int),v53 = .int .i64 x53_1∧Aside0 (F4.l0 kq x0_1 t438 (t438.length : Int) x53_1=some r)∧Aside0 (kq≤k)∧Aside0 (Kd.R (Kd.int .u8) 5 w' w0.heap.size (fun k_ => (P0_ k_∨w.heap.size≤k_)) v0 x0_1)∧Aside0 (Kd.R k31 31 w' w0.heap.size (fun k_ => (P0_ k_∨w.heap.size≤k_)∧k_≠gb422) (.slice Ao36 t438.length co36) t438)∧Aside0 (w'.heap[gb422]? = some (.cells #[.int .i64 a1_0,.int .i64 a1_1,.string a1_2] 31 (0,0)))∧Aside0 (Kept w w' (fun k_ => P0_ k_))∧Aside0 (Below w0.heap.size w0 w'))
   case atStart => exact ⟨(y423),(0),(by first|rfl|(simp;done)|(simp [*];done)),H',⟨ye _⟩,⟨by (with_reducible repeat (first|apply zm|apply zn|apply zo));exact HO425.out⟩,⟨by (with_reducible repeat (first|apply zm|apply zn|apply zo));exact zM HO440.out (fun _ hk => ⟨hk.1.1,hk.2⟩)⟩,⟨by (with_reducible repeat first|apply ze|apply zf|apply zg);exact BK422.out⟩,⟨by repeat (with_reducible first|exact HK.out|apply zr|apply zp|apply zq|refine zs ?_ (.inr GW422.out) _)⟩,⟨by repeat (with_reducible first|exact HB.out|apply za|apply zb|apply zc|refine zd ?_ GE422.out)⟩⟩
   case round =>
    clear H'
    try clear c1 c2
    try clear p2
    try clear c3 c4 c4b0 c4b1 c5
    try clear p6
    try clear c11 c11b0 c11b1 c13 c21 c21b0 c21b1 c29 c29b0 c29b1
    try clear hcz15_0 hcz15_1 hcz15_2
    try clear hcz17_0 hcz17_1 hcz17_2
    try clear hcz24_0 hcz24_1 hcz24_2
    try clear hcz26_0 hcz26_1 hcz26_2
    try clear hcz32_0 hcz32_1 hcz32_2
    try clear hcz34_0 hcz34_1 hcz34_2
    try clear hcz7_0 hcz7_1 hcz7_2
    try clear hcz9_0 hcz9_1 hcz9_2
    try clear hfz15_0 hfz15_1 hfz15_2
    try clear hfz17_0 hfz17_1 hfz17_2
    try clear hfz24_0 hfz24_1 hfz24_2
    try clear hfz26_0 hfz26_1 hfz26_2
    try clear hfz32_0 hfz32_1 hfz32_2
    try clear hfz34_0 hfz34_1 hfz34_2
    try clear hfz7_0 hfz7_1 hfz7_2
    try clear hfz9_0 hfz9_1 hfz9_2
    obtain ⟨x0_1,x53_1,rfl,HA,HK1,HO_0,HO_51,BK422,HK,HB⟩:=hrel
    cases gk with
    | zero => exact absurd HA.out (by simp [F4.l0])
    | succ k1 =>
     have H:=HA.out;clear HA;simp only [F4.l0] at H
     by_cases c37 : x53_1<(t438.length : Int)
     ·
      rw [if_pos c37] at H
      have c37b0 : decide (x53_1<(t438.length : Int))=true:=decide_eq_true c37;clear c37
      by_cases c38 : 0≤x53_1
      ·
       rw [if_pos c38] at H
       have c38b0 : decide (0≤x53_1)=true:=decide_eq_true c38;clear c38
       by_cases c39 : x53_1<(t438.length : Int)
       ·
        rw [if_pos c39] at H
        have c39b0 : decide (x53_1<(t438.length : Int))=true:=decide_eq_true c39;clear c39;replace H:=zT.mp H;obtain ⟨t444,A400,H⟩:=H;replace H : (F4.l0 k1 t444 t438 (t438.length : Int) (wrap64 (x53_1 + 1)))=some r:=H;have A40:=zh A400;clear A400;have H':=zh H;clear H;have p442 : 0≤(x53_1 : Int):=zy (by first|(with_reducible assumption)|assumption);have q442 : x53_1<(t438.length : Int):=zy (by first|(with_reducible assumption)|assumption);obtain ⟨ad442,e442,hx442_0,hx442_1,hx442_2⟩:=at_T31 (yh HO_51.out).2.2 x53_1 p442 q442
        cases e442
        replace p442:=eq_true p442;replace q442:=eq_true q442
        go_wp2_with (first|((with_reducible refine zK (N:=8) rfl ?_);refine zI ?hg (N:=8) ?hd (cs:=#[.int .i64 0,.int .i64 0,.string (⟨#[]⟩ : ByteArray)]) (t:=31) ?hr ?_;(case hd|hg => rfl);(case hr => go_simp <;> rfl);intro gb443 hg w41 hbox hb;replace HO_0:=zh (yg (by (with_reducible repeat (first|apply zm|apply zn|apply zo));exact HO_0.out) hb);replace HO_51:=zh (yg (Kd.R_elderB (by (with_reducible repeat (first|apply zm|apply zn|apply zo));exact HO_51.out) gb443 (Nat.le_of_eq hg.symm)) hb);have BK443:=zh (hbox);have GW443:=zh ((by rw [hg];exact (by first|exact HK.out.1|exact (show Kept w _ (fun k_ => P0_ k_) from by repeat (with_reducible first|exact HK.out|apply zr|apply zp|apply zq|refine zs ?_ (.inr GW422.out) _)).1) : w.heap.size≤gb443));replace HK:=zh (Kept.below (S:=(fun k_ => P0_ k_)) (by repeat (with_reducible first|exact HK.out|apply zr|apply zp|apply zq|refine zs ?_ (.inr GW422.out) _)) hb);have GE443:=zh ((by rw [hg];exact (zB (by repeat (with_reducible first|exact HB.out|apply za|apply zb|apply zc|refine zd ?_ GE422.out))) : w0.heap.size≤gb443));replace HB:=zh (zC (by repeat (with_reducible first|exact HB.out|apply za|apply zb|apply zc|refine zd ?_ GE422.out)) hb);have NB422_443:=zh ((by rw [hg];exact yc (yi (g:=gb422) (o:=.cells #[.int .i64 a1_0,.int .i64 a1_1,.string a1_2] 31 (0,0)) (by (with_reducible repeat first|apply ze|apply zf|apply zg);exact BK422.out)) : gb422≠gb443));have NB443_422:=zh NB422_443.out.symm;replace BK422:=zh (cD BK422.out (by (with_reducible repeat first|apply ze|apply zf|apply zg);exact BK422.out) hb);clear hb hbox hg;have hnb42:=NB443_422.out;have hnc42:=NB422_443.out;obtain ⟨hcz43_0,hcz43_1,hcz43_2,hfz43_0,hfz43_1,hfz43_2⟩:=cB3 BK443.out)|((with_reducible refine gate_store (t:=31) (p:=8) rfl ?_);refine store_event (t:=31) (p:=8) (v:=?vo_w44) (w1:=(((w41.setCell ⟨gb443,0,none⟩ (.int .i64 ((rd_T31 t438 x53_1).f0))).setCell ⟨gb443,1,none⟩ (.int .i64 ((rd_T31 t438 x53_1).f1))).setCell ⟨gb443,2,none⟩ (.string ((rd_T31 t438 x53_1).f2)))) ?hg ?ho ?hn ?hr ?_;(case ho => rfl);(case hg => rfl);(case hn => rfl);(case hr => go_simp <;> rfl);intro w44 hw;replace HO_0 : Aside0 (Kd.R (Kd.int .u8) 5 w44 w0.heap.size (fun k_ => (P0_ k_∨w.heap.size≤k_)) u0 x0_1):=⟨(by rw [hw];exact (by (with_reducible repeat (first|apply zm|apply zn|apply zo));exact zM (zE (p:=⟨gb443,2,none⟩) (zE (p:=⟨gb443,1,none⟩) (zE (p:=⟨gb443,0,none⟩) (yf HO_0.out BK443.out (by decide)) (fun _ hk => hk.2) (.int .i64 ((rd_T31 t438 x53_1).f0))) (fun _ hk => hk.2) (.int .i64 ((rd_T31 t438 x53_1).f1))) (fun _ hk => hk.2) (.string ((rd_T31 t438 x53_1).f2))) (fun _ hk => hk.1)))⟩;replace HO_51 : Aside0 (Kd.R k31 31 w44 w0.heap.size (fun k_ => (P0_ k_∨w.heap.size≤k_)∧k_≠gb422∧k_≠gb443) (.slice (some ad442) t438.length co36) t438):=⟨(by rw [hw];exact (by (with_reducible repeat (first|apply zm|apply zn|apply zo));exact zM (zE (p:=⟨gb443,2,none⟩) (zE (p:=⟨gb443,1,none⟩) (zE (p:=⟨gb443,0,none⟩) (zM HO_51.out (fun k_ hk => (⟨hk,hk.2⟩ : _∧k_≠gb443))) (fun _ hk => hk.2) (.int .i64 ((rd_T31 t438 x53_1).f0))) (fun _ hk => hk.2) (.int .i64 ((rd_T31 t438 x53_1).f1))) (fun _ hk => hk.2) (.string ((rd_T31 t438 x53_1).f2))) (fun _ hk => ⟨hk.1.1.1,⟨hk.1.1.2,hk.1.2⟩⟩)))⟩;replace BK422 : Aside0 (w44.heap[gb422]? = some (.cells #[.int .i64 a1_0,.int .i64 a1_1,.string a1_2] 31 (0,0))):=⟨(by rw [hw];exact (by (with_reducible repeat first|apply ze|apply zf|apply zg);refine cS3 ?_ NB422_443.out;(with_reducible repeat first|apply ze|apply zf|apply zg);exact BK422.out))⟩;replace BK443 : Aside0 (w44.heap[gb443]? = some (.cells #[.int .i64 ((rd_T31 t438 x53_1).f0),.int .i64 ((rd_T31 t438 x53_1).f1),.string ((rd_T31 t438 x53_1).f2)] 31 (0,0))):=⟨(by rw [hw];exact (by (with_reducible repeat first|apply ze|apply zf|apply zg);refine zL (cs:=#[.int .i64 ((rd_T31 t438 x53_1).f0),.int .i64 ((rd_T31 t438 x53_1).f1),.string (⟨#[]⟩ : ByteArray)]) ?_ 2 _ rfl;(with_reducible repeat first|apply ze|apply zf|apply zg);refine zL (cs:=#[.int .i64 ((rd_T31 t438 x53_1).f0),.int .i64 0,.string (⟨#[]⟩ : ByteArray)]) ?_ 1 _ rfl;(with_reducible repeat first|apply ze|apply zf|apply zg);refine zL (cs:=#[.int .i64 0,.int .i64 0,.string (⟨#[]⟩ : ByteArray)]) ?_ 0 _ rfl;(with_reducible repeat first|apply ze|apply zf|apply zg);exact BK443.out))⟩;replace HK : Aside0 (Kept w w44 (fun k_ => P0_ k_)):=⟨(by rw [hw];exact (by repeat (with_reducible first|exact HK.out|apply zr|apply zp|apply zq|refine zs ?_ (.inr GW422.out) _|refine zs ?_ (.inr GW443.out) _)))⟩;replace HB : Aside0 (Below w0.heap.size w0 w44):=⟨(by rw [hw];exact (by repeat (with_reducible first|exact HB.out|apply za|apply zb|apply zc|refine zd ?_ GE422.out|refine zd ?_ GE443.out)))⟩;clear hw;obtain ⟨hcz45_0,hcz45_1,hcz45_2,hfz45_0,hfz45_1,hfz45_2⟩:=cB3 BK443.out;obtain ⟨Ao46,co46,eo46⟩:=yk HO_0.out;subst eo46)|((with_reducible refine zJ (f:=40) rfl ?_);refine yj (some 59) rfl rfl Tryd.func40 (by kernel_rfl) rfl #[.slice Ao46 x0_1.length co46,.agg #[.int .i64 ((rd_T31 t438 x53_1).f0),.int .i64 ((rd_T31 t438 x53_1).f1),.string ((rd_T31 t438 x53_1).f2)]] rfl (by (try simp only [zt,zu,zv]);first|done|rfl|(simp only [zw,zx];rfl)|(simp only [yr,ys,zV,zW];rfl)) ?_;(with_reducible refine (ih k1 (by have:=HK1.out;omega)  (fun k_ => some k_=(.slice Ao46 x0_1.length co46 : Value).ownBlock) (.slice Ao46 x0_1.length co46) x0_1 ((rd_T31 t438 x53_1).f0) ((rd_T31 t438 x53_1).f1) ((rd_T31 t438 x53_1).f2) t444 w0 _ ?side1 ?side2 A40.out).mono ?_);(case side1 => repeat (with_reducible first|exact HB.out|apply za|apply zb|apply zc|refine zd ?_ GE422.out|refine zd ?_ GE443.out));(case side2 => exact Kd.R_tight rfl HO_0.out);rintro e w47 ⟨v445,rfl,ho0,hb,hkp⟩;refine ⟨_,rfl,?_⟩;replace HO_51:=zh (zM (ok':=fun k_ => (P0_ k_∨w.heap.size≤k_)∧k_≠gb422∧k_≠gb443) (Kd.R_keptB ((Kd.R_apart' HO_51.out (Kd.R_typed HO_0.out) (by decide))) hkp (fun k_ hk_ hs_ => (hk_.2) hs_)) (fun k_ hk_ => ⟨hk_.1.1.1,hk_.1.1.2.1,hk_.1.1.2.2⟩));replace BK422:=zh (blk_kept (by (with_reducible repeat first|apply ze|apply zf|apply zg);exact BK422.out) hkp (fun hs_ => (fun e_ => (Kd.R_ne HO_0.out BK422.out (by decide)) e_) hs_));replace BK443:=zh (blk_kept (by (with_reducible repeat first|apply ze|apply zf|apply zg);exact BK443.out) hkp (fun hs_ => (fun e_ => (Kd.R_ne HO_0.out BK443.out (by decide)) e_) hs_));have HO446:=zh (zM (ok':=fun k_ => (P0_ k_∨w.heap.size≤k_)) ho0 (fun k_ hk_ => Or.elim hk_ (fun hs_ => (HO_0.out.1 k_ (hs_).symm)) (fun hn_ => (.inr (Nat.le_trans (by first|exact HK.out.1|exact (show Kept w _ (fun k_ => P0_ k_) from by repeat (with_reducible first|exact HK.out|apply zr|apply zp|apply zq|refine zs ?_ (.inr GW422.out) _|refine zs ?_ (.inr GW443.out) _)).1) hn_)))));replace HK:=zh (Kept.then_ (S:=(fun k_ => P0_ k_)) (by repeat (with_reducible first|exact HK.out|apply zr|apply zp|apply zq|refine zs ?_ (.inr GW422.out) _|refine zs ?_ (.inr GW443.out) _)) hkp (fun k_ hs_ => (fun e_ => (HO_0.out.1 k_ e_.symm)) hs_));replace HB:=zh (hb);clear HO_0;(try clear hb);(try clear hkp);(try clear ho0)))
        go_roundg k1
        case measure => have:=HK1.out;omega
        case rel => exact ⟨(t444),(wrap64 (x53_1 + 1)),(by first|rfl|(simp;done)|(simp [*];done)),H',⟨by have:=HK1.out;omega⟩,⟨by (with_reducible repeat (first|apply zm|apply zn|apply zo));exact HO446.out⟩,⟨by (with_reducible repeat (first|apply zm|apply zn|apply zo));exact zM HO_51.out (fun _ hk => ⟨hk.1,hk.2.1⟩)⟩,⟨by (with_reducible repeat first|apply ze|apply zf|apply zg);exact BK422.out⟩,⟨by repeat (with_reducible first|exact HK.out|apply zr|apply zp|apply zq|refine zs ?_ (.inr GW422.out) _|refine zs ?_ (.inr GW443.out) _)⟩,⟨by repeat (with_reducible first|exact HB.out|apply za|apply zb|apply zc|refine zd ?_ GE422.out|refine zd ?_ GE443.out)⟩⟩
       rw [if_neg c39] at H;exact absurd H (by simp)
      rw [if_neg c38] at H;exact absurd H (by simp)
     rw [if_neg c37] at H;have c37b0 : decide (x53_1<(t438.length : Int))=false:=decide_eq_false c37;clear c37
     by_cases c48 : x0_1.length<140737488355328
     ·
      rw [if_pos c48] at H
      have LMc48:=zh c48;clear c48;obtain ⟨y447,hy447⟩ : ∃ y_ : List Int,y_=(x0_1 ++ [0]):=⟨_,rfl⟩;replace H : (some y447)=some r:=by first|(rw [hy447];with_reducible exact H)|(have H2_:=(Option.bind_some _ _).symm.trans H;rw [hy447];with_reducible exact H2_)|(have H2_:=(Option.bind_some _ _).symm.trans H;with_reducible exact H2_)|with_reducible exact H|(rw [hy447];exact H)|exact H
      have Ny447:=zh hy447;clear hy447;obtain rfl:=zU H
      go_wp2_with (first|((with_reducible refine yB (b:=.append) (xs:=#[.tmp 61,.tmp 62]) rfl ?_);at_builtin;refine Kd.R_append (Kd.int .u8) (w0:=w0) w0.heap.size rfl (.tmp 61) (.tmp 62) 51 5 (.int .u8 0) 1 rfl Tryd.underlying51 info5 rfl (by decide) (by omega) u0 x0_1 0 [.int .u8 0] (fun k_ => (P0_ k_∨w.heap.size≤k_)) (fun _ => False) rfl rfl ?aP (fun _ hk => hk.elim) ?aF ?aO ?aB ?aS ?aL ?_;(case aP => exact rfl);(case aB => exact (by repeat (with_reducible first|exact HB.out|apply za|apply zb|apply zc|refine zd ?_ GE422.out)));(case aF => exact (fun k_ hk => (.inr (Nat.le_trans (by first|exact HK.out.1|exact (show Kept w _ (fun k_ => P0_ k_) from by repeat (with_reducible first|exact HK.out|apply zr|apply zp|apply zq|refine zs ?_ (.inr GW422.out) _)).1) hk))));(case aO => exact (by (with_reducible repeat (first|apply zm|apply zn|apply zo));exact HO_0.out));(case aS => exact (zB (by repeat (with_reducible first|exact HB.out|apply za|apply zb|apply zc|refine zd ?_ GE422.out))));(case aL => have:=LMc48.out;omega);intro v448 w49 ho hb hg hat;rw [← Ny447.out] at ho;replace HO_51:=zh (Kd.R_over' (by (with_reducible repeat (first|apply zm|apply zn|apply zo));exact HO_51.out) (Kd.R_typed (by (with_reducible repeat (first|apply zm|apply zn|apply zo));exact HO_0.out)) (by decide) hg);replace BK422:=zh (yw (g:=gb422) (o:=.cells #[.int .i64 a1_0,.int .i64 a1_1,.string a1_2] 31 (0,0)) (by (with_reducible repeat first|apply ze|apply zf|apply zg);exact BK422.out) hg (Kd.R_ne HO_0.out BK422.out (by decide)));replace HB:=zh (hb);replace HK:=zh (yA (S:=(fun k_ => P0_ k_)) hg (by repeat (with_reducible first|exact HK.out|apply zr|apply zp|apply zq|refine zs ?_ (.inr GW422.out) _)) (fun k_ e_ => (HO_0.out.1 k_ e_)));have HO449:=zh (ho);clear HO_0 ho hb hg hat))
      go_ret
      exact ⟨_,by first|rfl|(simp [yt,yu] <;> rfl)|(simp [*,yt,yu] <;> rfl),by (with_reducible repeat (first|apply zm|apply zn|apply zo));exact HO449.out,by repeat (with_reducible first|exact HB.out|apply za|apply zb|apply zc|refine zd ?_ GE422.out),by repeat (with_reducible first|exact HK.out|apply zr|apply zp|apply zq|refine zs ?_ (.inr GW422.out) _)⟩
     rw [if_neg c48] at H;exact absurd H (by simp)
  rw [if_neg c29] at H;have c29b0 : (a1_0 == 4)=false:=zY.mpr c29;have c29b1 : (a1_0 != 4)=true:=zZ.mpr c29
  by_cases c50 : a1_0=5
  ·
   rw [if_pos c50] at H
   have c50b0 : (a1_0 == 5)=true:=ya.mpr c50;have c50b1 : (a1_0 != 5)=false:=zX.mpr c50;clear c50;replace H:=zT.mp H;obtain ⟨⟨t450,t453⟩,A510,H⟩:=H;replace H : (F4.l1 k y423 t450 (t450.length : Int) 0)=some r:=H;have A51:=zh A510;clear A510;have H':=zh H;clear H
   go_enter Tryd.func40,Tryd.ntmps40
   go_wp2_with (first|((with_reducible refine zK (N:=3) rfl ?_);refine zI ?hg (N:=3) ?hd (cs:=#[.int .i64 a1_0,.int .i64 a1_1,.string a1_2]) (t:=31) ?hr ?_;(case hd|hg => rfl);(case hr => go_simp <;> rfl);intro gb422 hg w52 hbox hb;replace HO0:=zh (yg (by (with_reducible repeat (first|apply zm|apply zn|apply zo));exact HO0.out) hb);have BK422:=zh (hbox);have GW422:=zh ((by rw [hg];exact (by first|exact HK.out.1|exact (show Kept w _ (fun k_ => P0_ k_) from by repeat (with_reducible first|exact HK.out|apply zr|apply zp|apply zq)).1) : w.heap.size≤gb422));replace HK:=zh (Kept.below (S:=(fun k_ => P0_ k_)) (by repeat (with_reducible first|exact HK.out|apply zr|apply zp|apply zq)) hb);have GE422:=zh ((by rw [hg];exact (zB (by repeat (with_reducible first|exact HB.out|apply za|apply zb|apply zc))) : w0.heap.size≤gb422));replace HB:=zh (zC (by repeat (with_reducible first|exact HB.out|apply za|apply zb|apply zc)) hb);clear hb hbox hg;obtain ⟨hcz53_0,hcz53_1,hcz53_2,hfz53_0,hfz53_1,hfz53_2⟩:=cB3 BK422.out)|((with_reducible refine yB (b:=.append) (xs:=#[.tmp 13,.tmp 18]) rfl ?_);at_builtin;refine Kd.R_append (Kd.int .u8) (w0:=w0) w0.heap.size rfl (.tmp 13) (.tmp 18) 51 5 (.int .u8 0) 1 rfl Tryd.underlying51 info5 rfl (by decide) (by omega) u9000_ l0 ((wrap64 (a1_0 + 1)) % 256) [.int .u8 ((wrap64 (a1_0 + 1)) % 256)] (fun k_ => (P0_ k_∨w.heap.size≤k_)) (fun _ => False) rfl rfl ?aP (fun _ hk => hk.elim) ?aF ?aO ?aB ?aS ?aL ?_;(case aP => exact rfl);(case aB => exact (by repeat (with_reducible first|exact HB.out|apply za|apply zb|apply zc|refine zd ?_ GE422.out)));(case aF => exact (fun k_ hk => (.inr (Nat.le_trans (by first|exact HK.out.1|exact (show Kept w _ (fun k_ => P0_ k_) from by repeat (with_reducible first|exact HK.out|apply zr|apply zp|apply zq|refine zs ?_ (.inr GW422.out) _)).1) hk))));(case aO => exact (by (with_reducible repeat (first|apply zm|apply zn|apply zo));exact HO0.out));(case aS => exact (zB (by repeat (with_reducible first|exact HB.out|apply za|apply zb|apply zc|refine zd ?_ GE422.out))));(case aL => have:=LMc3.out;omega);intro v424 w54 ho hb hg hat;rw [← Ny423.out] at ho;replace BK422:=zh (yw (g:=gb422) (o:=.cells #[.int .i64 a1_0,.int .i64 a1_1,.string a1_2] 31 (0,0)) (by (with_reducible repeat first|apply ze|apply zf|apply zg);exact BK422.out) hg (Kd.R_ne HO0.out BK422.out (by decide)));replace HB:=zh (hb);replace HK:=zh (yA (S:=(fun k_ => P0_ k_)) hg (by repeat (with_reducible first|exact HK.out|apply zr|apply zp|apply zq|refine zs ?_ (.inr GW422.out) _)) (fun k_ e_ => (HO0.out.1 k_ e_)));have HO425:=zh (ho);clear HO0 ho hb hg hat;obtain ⟨hcz55_0,hcz55_1,hcz55_2,hfz55_0,hfz55_1,hfz55_2⟩:=cB3 BK422.out)|((with_reducible refine zJ (f:=55) rfl ?_);refine yj (some 68) rfl rfl Tryd.func55 (by kernel_rfl) rfl #[.agg #[.int .i64 a1_0,.int .i64 a1_1,.string a1_2]] rfl (by (try simp only [zt,zu,zv]);first|done|rfl|(simp only [zw,zx];rfl)|(simp only [yr,ys,zV,zW];rfl)) ?_;(with_reducible refine (F7.calls k  a1_0 a1_1 a1_2 t450 t453 _ A51.out).mono ?_);rintro e w56 ⟨v451,rfl,ho0,hb⟩;refine ⟨_,rfl,?_⟩;replace HO425:=zh (yg (by (with_reducible repeat (first|apply zm|apply zn|apply zo));exact HO425.out) hb);have HO452:=zh (yy (Kd.R_newM (M:=fun k_ => (P0_ k_∨w.heap.size≤k_)) ho0 (by first|exact HK.out.1|exact (show Kept w _ (fun k_ => P0_ k_) from by repeat (with_reducible first|exact HK.out|apply zr|apply zp|apply zq|refine zs ?_ (.inr GW422.out) _)).1) (fun k_ h_ => .inr h_)) (zB (by repeat (with_reducible first|exact HB.out|apply za|apply zb|apply zc|refine zd ?_ GE422.out))));replace BK422:=zh (cD BK422.out (by (with_reducible repeat first|apply ze|apply zf|apply zg);exact BK422.out) hb);replace HK:=zh (Kept.below (S:=(fun k_ => P0_ k_)) (by repeat (with_reducible first|exact HK.out|apply zr|apply zp|apply zq|refine zs ?_ (.inr GW422.out) _)) hb);replace HB:=zh (zC (by repeat (with_reducible first|exact HB.out|apply za|apply zb|apply zc|refine zd ?_ GE422.out)) hb);(try clear hb);(try clear hb2);(try clear hk);(try clear hi);(try clear ho0);obtain ⟨Ao57,co57,eo57⟩:=yk HO452.out;subst eo57))
   go_loopg [0,73] k (fun kq v0 v73 w' => ∃ (x0_1 : List Int) (x73_1 : Int),v73 = .int .i64 x73_1∧Aside0 (F4.l1 kq x0_1 t450 (t450.length : Int) x73_1=some r)∧Aside0 (kq≤k)∧Aside0 (Kd.R (Kd.int .u8) 5 w' w0.heap.size (fun k_ => (P0_ k_∨w.heap.size≤k_)) v0 x0_1)∧Aside0 (Kd.R k70 70 w' w0.heap.size (fun k_ => (P0_ k_∨w.heap.size≤k_)) (.slice Ao57 t450.length co57) t450)∧Aside0 (w'.heap[gb422]? = some (.cells #[.int .i64 a1_0,.int .i64 a1_1,.string a1_2] 31 (0,0)))∧Aside0 (Kept w w' (fun k_ => P0_ k_))∧Aside0 (Below w0.heap.size w0 w'))
   case atStart => exact ⟨(y423),(0),(by first|rfl|(simp;done)|(simp [*];done)),H',⟨ye _⟩,⟨by (with_reducible repeat (first|apply zm|apply zn|apply zo));exact HO425.out⟩,⟨by (with_reducible repeat (first|apply zm|apply zn|apply zo));exact zM HO452.out (fun _ hk => hk.1)⟩,⟨by (with_reducible repeat first|apply ze|apply zf|apply zg);exact BK422.out⟩,⟨by repeat (with_reducible first|exact HK.out|apply zr|apply zp|apply zq|refine zs ?_ (.inr GW422.out) _)⟩,⟨by repeat (with_reducible first|exact HB.out|apply za|apply zb|apply zc|refine zd ?_ GE422.out)⟩⟩
   case round =>
    clear H'
    try clear c1 c2
    try clear p2
    try clear c3 c4 c4b0 c4b1
    try clear p4
    try clear q4
    try clear hx4
    try clear c5
    try clear p6
    try clear c11 c11b0 c11b1 c13 c21 c21b0 c21b1 c29 c29b0 c29b1 c37 c37b0 c38 c38b0 c39 c39b0 c40 c42
    try clear p44
    try clear q44
    try clear hx44
    try clear c48 c50 c50b0 c50b1 c52 c53 c54 c55
    try clear hcz15_0 hcz15_1 hcz15_2
    try clear hcz17_0 hcz17_1 hcz17_2
    try clear hcz24_0 hcz24_1 hcz24_2
    try clear hcz26_0 hcz26_1 hcz26_2
    try clear hcz32_0 hcz32_1 hcz32_2
    try clear hcz34_0 hcz34_1 hcz34_2
    try clear hcz43_0 hcz43_1 hcz43_2
    try clear hcz45_0 hcz45_1 hcz45_2
    try clear hcz53_0 hcz53_1 hcz53_2
    try clear hcz55_0 hcz55_1 hcz55_2
    try clear hcz7_0 hcz7_1 hcz7_2
    try clear hcz9_0 hcz9_1 hcz9_2
    try clear hfz15_0 hfz15_1 hfz15_2
    try clear hfz17_0 hfz17_1 hfz17_2
    try clear hfz24_0 hfz24_1 hfz24_2
    try clear hfz26_0 hfz26_1 hfz26_2
    try clear hfz32_0 hfz32_1 hfz32_2
    try clear hfz34_0 hfz34_1 hfz34_2
    try clear hfz43_0 hfz43_1 hfz43_2
    try clear hfz45_0 hfz45_1 hfz45_2
    try clear hfz53_0 hfz53_1 hfz53_2
    try clear hfz55_0 hfz55_1 hfz55_2
    try clear hfz7_0 hfz7_1 hfz7_2
    try clear hfz9_0 hfz9_1 hfz9_2
    try clear hx442_0
    try clear hx442_1
    try clear hx442_2
    try clear p2
    try clear p442
    try clear p6
    try clear q442
    obtain ⟨x0_1,x73_1,rfl,HA,HK1,HO_0,HO_71,BK422,HK,HB⟩:=hrel
    cases gk with
    | zero => exact absurd HA.out (by simp [F4.l1])
    | succ k1 =>
     have H:=HA.out;clear HA;simp only [F4.l1] at H
     by_cases c58 : x73_1<(t450.length : Int)
     ·
      rw [if_pos c58] at H
      have c58b0 : decide (x73_1<(t450.length : Int))=true:=decide_eq_true c58;clear c58
      by_cases c59 : 0≤x73_1
      ·
       rw [if_pos c59] at H
       have c59b0 : decide (0≤x73_1)=true:=decide_eq_true c59;clear c59
       by_cases c60 : x73_1<(t450.length : Int)
       ·
        rw [if_pos c60] at H
        have c60b0 : decide (x73_1<(t450.length : Int))=true:=decide_eq_true c60;clear c60
        by_cases c61 : x0_1.length<140737488355328
        ·
         rw [if_pos c61] at H
         have LMc61:=zh c61;clear c61;obtain ⟨y456,hy456⟩ : ∃ y_ : List Int,y_=(x0_1 ++ [1]):=⟨_,rfl⟩;replace H : ((Fk.f k1 y456 ((rd_T70 t450 x73_1).f0)).bind fun t459 => ((F4.f k1 t459 ((rd_T70 t450 x73_1).f1.f0) ((rd_T70 t450 x73_1).f1.f1) ((rd_T70 t450 x73_1).f1.f2)).bind fun t462 => (F4.l1 k1 t462 t450 (t450.length : Int) (wrap64 (x73_1 + 1)))))=some r:=by first|(rw [hy456];with_reducible exact H)|(have H2_:=(Option.bind_some _ _).symm.trans H;rw [hy456];with_reducible exact H2_)|(have H2_:=(Option.bind_some _ _).symm.trans H;with_reducible exact H2_)|with_reducible exact H|(rw [hy456];exact H)|exact H
         have Ny456:=zh hy456;clear hy456;replace H:=zT.mp H;obtain ⟨t459,A620,H⟩:=H;replace H : ((F4.f k1 t459 ((rd_T70 t450 x73_1).f1.f0) ((rd_T70 t450 x73_1).f1.f1) ((rd_T70 t450 x73_1).f1.f2)).bind fun t462 => (F4.l1 k1 t462 t450 (t450.length : Int) (wrap64 (x73_1 + 1))))=some r:=H;have A62:=zh A620;clear A620;replace H:=zT.mp H;obtain ⟨t462,A630,H⟩:=H;replace H : (F4.l1 k1 t462 t450 (t450.length : Int) (wrap64 (x73_1 + 1)))=some r:=H;have A63:=zh A630;clear A630;have H':=zh H;clear H;have p454 : 0≤(x73_1 : Int):=zy (by first|(with_reducible assumption)|assumption);have q454 : x73_1<(t450.length : Int):=zy (by first|(with_reducible assumption)|assumption);obtain ⟨ad454,e454,hx454_0,hx454_1,hx454_2,hx454_3⟩:=at_T70 (yh HO_71.out).2.2 x73_1 p454 q454
         cases e454
         replace p454:=eq_true p454;replace q454:=eq_true q454
         try go_wp2_with (first|((with_reducible refine zK (N:=12) rfl ?_);refine zI ?hg (N:=12) ?hd (cs:=#[.string (⟨#[]⟩ : ByteArray),.int .i64 0,.int .i64 0,.string (⟨#[]⟩ : ByteArray)]) (t:=70) ?hr ?_;(case hd|hg => rfl);(case hr => go_simp <;> rfl);intro gb455 hg w64 hbox hb;replace HO_0:=zh (yg (by (with_reducible repeat (first|apply zm|apply zn|apply zo));exact HO_0.out) hb);replace HO_71:=zh (yg (Kd.R_elderB (by (with_reducible repeat (first|apply zm|apply zn|apply zo));exact HO_71.out) gb455 (Nat.le_of_eq hg.symm)) hb);have BK455:=zh (hbox);have GW455:=zh ((by rw [hg];exact (by first|exact HK.out.1|exact (show Kept w _ (fun k_ => P0_ k_) from by repeat (with_reducible first|exact HK.out|apply zr|apply zp|apply zq|refine zs ?_ (.inr GW422.out) _)).1) : w.heap.size≤gb455));replace HK:=zh (Kept.below (S:=(fun k_ => P0_ k_)) (by repeat (with_reducible first|exact HK.out|apply zr|apply zp|apply zq|refine zs ?_ (.inr GW422.out) _)) hb);have GE455:=zh ((by rw [hg];exact (zB (by repeat (with_reducible first|exact HB.out|apply za|apply zb|apply zc|refine zd ?_ GE422.out))) : w0.heap.size≤gb455));replace HB:=zh (zC (by repeat (with_reducible first|exact HB.out|apply za|apply zb|apply zc|refine zd ?_ GE422.out)) hb);have NB422_455:=zh ((by rw [hg];exact yc (yi (g:=gb422) (o:=.cells #[.int .i64 a1_0,.int .i64 a1_1,.string a1_2] 31 (0,0)) (by (with_reducible repeat first|apply ze|apply zf|apply zg);exact BK422.out)) : gb422≠gb455));have NB455_422:=zh NB422_455.out.symm;replace BK422:=zh (cD BK422.out (by (with_reducible repeat first|apply ze|apply zf|apply zg);exact BK422.out) hb);clear hb hbox hg;have hnb65:=NB455_422.out;have hnc65:=NB422_455.out;obtain ⟨hcz66_0,hcz66_1,hcz66_2,hcz66_3,hfz66_0,hfz66_1,hfz66_2,hfz66_3⟩:=cB4 BK455.out))
         have n0_ : Aside0 (Kd.R (Kd.int .u8) 5 ((((w64.setCell ⟨gb455,0,none⟩ (.string ((rd_T70 t450 x73_1).f0))).setCell ⟨gb455,1,none⟩ (.int .i64 ((rd_T70 t450 x73_1).f1.f0))).setCell ⟨gb455,2,none⟩ (.int .i64 ((rd_T70 t450 x73_1).f1.f1))).setCell ⟨gb455,3,none⟩ (.string ((rd_T70 t450 x73_1).f1.f2))) w0.heap.size (fun k_ => (P0_ k_∨w.heap.size≤k_)) u0 x0_1):=⟨by (with_reducible repeat (first|apply zm|apply zn|apply zo));exact zM (zE (p:=⟨gb455,3,none⟩) (zE (p:=⟨gb455,2,none⟩) (zE (p:=⟨gb455,1,none⟩) (zE (p:=⟨gb455,0,none⟩) (yf HO_0.out BK455.out (by decide)) (fun _ hk => hk.2) (.string ((rd_T70 t450 x73_1).f0))) (fun _ hk => hk.2) (.int .i64 ((rd_T70 t450 x73_1).f1.f0))) (fun _ hk => hk.2) (.int .i64 ((rd_T70 t450 x73_1).f1.f1))) (fun _ hk => hk.2) (.string ((rd_T70 t450 x73_1).f1.f2))) (fun _ hk => hk.1)⟩;have n1_ : Aside0 (Kd.R k70 70 ((((w64.setCell ⟨gb455,0,none⟩ (.string ((rd_T70 t450 x73_1).f0))).setCell ⟨gb455,1,none⟩ (.int .i64 ((rd_T70 t450 x73_1).f1.f0))).setCell ⟨gb455,2,none⟩ (.int .i64 ((rd_T70 t450 x73_1).f1.f1))).setCell ⟨gb455,3,none⟩ (.string ((rd_T70 t450 x73_1).f1.f2))) w0.heap.size (fun k_ => (P0_ k_∨w.heap.size≤k_)∧k_≠gb455) (.slice (some ad454) t450.length co57) t450):=⟨by (with_reducible repeat (first|apply zm|apply zn|apply zo));exact zM (zE (p:=⟨gb455,3,none⟩) (zE (p:=⟨gb455,2,none⟩) (zE (p:=⟨gb455,1,none⟩) (zE (p:=⟨gb455,0,none⟩) (zM HO_71.out (fun k_ hk => (⟨hk,hk.2⟩ : _∧k_≠gb455))) (fun _ hk => hk.2) (.string ((rd_T70 t450 x73_1).f0))) (fun _ hk => hk.2) (.int .i64 ((rd_T70 t450 x73_1).f1.f0))) (fun _ hk => hk.2) (.int .i64 ((rd_T70 t450 x73_1).f1.f1))) (fun _ hk => hk.2) (.string ((rd_T70 t450 x73_1).f1.f2))) (fun _ hk => ⟨hk.1.1,hk.1.2⟩)⟩;have n2_ : Aside0 (((((w64.setCell ⟨gb455,0,none⟩ (.string ((rd_T70 t450 x73_1).f0))).setCell ⟨gb455,1,none⟩ (.int .i64 ((rd_T70 t450 x73_1).f1.f0))).setCell ⟨gb455,2,none⟩ (.int .i64 ((rd_T70 t450 x73_1).f1.f1))).setCell ⟨gb455,3,none⟩ (.string ((rd_T70 t450 x73_1).f1.f2))).heap[gb422]? = some (.cells #[.int .i64 a1_0,.int .i64 a1_1,.string a1_2] 31 (0,0))):=⟨by (with_reducible repeat first|apply ze|apply zf|apply zg);refine cS4 ?_ NB422_455.out;(with_reducible repeat first|apply ze|apply zf|apply zg);exact BK422.out⟩;have n3_ : Aside0 (((((w64.setCell ⟨gb455,0,none⟩ (.string ((rd_T70 t450 x73_1).f0))).setCell ⟨gb455,1,none⟩ (.int .i64 ((rd_T70 t450 x73_1).f1.f0))).setCell ⟨gb455,2,none⟩ (.int .i64 ((rd_T70 t450 x73_1).f1.f1))).setCell ⟨gb455,3,none⟩ (.string ((rd_T70 t450 x73_1).f1.f2))).heap[gb455]? = some (.cells #[.string ((rd_T70 t450 x73_1).f0),.int .i64 ((rd_T70 t450 x73_1).f1.f0),.int .i64 ((rd_T70 t450 x73_1).f1.f1),.string ((rd_T70 t450 x73_1).f1.f2)] 70 (0,0))):=⟨by (with_reducible repeat first|apply ze|apply zf|apply zg);refine zL (cs:=#[.string ((rd_T70 t450 x73_1).f0),.int .i64 ((rd_T70 t450 x73_1).f1.f0),.int .i64 ((rd_T70 t450 x73_1).f1.f1),.string (⟨#[]⟩ : ByteArray)]) ?_ 3 _ rfl;(with_reducible repeat first|apply ze|apply zf|apply zg);refine zL (cs:=#[.string ((rd_T70 t450 x73_1).f0),.int .i64 ((rd_T70 t450 x73_1).f1.f0),.int .i64 0,.string (⟨#[]⟩ : ByteArray)]) ?_ 2 _ rfl;(with_reducible repeat first|apply ze|apply zf|apply zg);refine zL (cs:=#[.string ((rd_T70 t450 x73_1).f0),.int .i64 0,.int .i64 0,.string (⟨#[]⟩ : ByteArray)]) ?_ 1 _ rfl;(with_reducible repeat first|apply ze|apply zf|apply zg);refine zL (cs:=#[.string (⟨#[]⟩ : ByteArray),.int .i64 0,.int .i64 0,.string (⟨#[]⟩ : ByteArray)]) ?_ 0 _ rfl;(with_reducible repeat first|apply ze|apply zf|apply zg);exact BK455.out⟩;have n4_ : Aside0 (Kept w ((((w64.setCell ⟨gb455,0,none⟩ (.string ((rd_T70 t450 x73_1).f0))).setCell ⟨gb455,1,none⟩ (.int .i64 ((rd_T70 t450 x73_1).f1.f0))).setCell ⟨gb455,2,none⟩ (.int .i64 ((rd_T70 t450 x73_1).f1.f1))).setCell ⟨gb455,3,none⟩ (.string ((rd_T70 t450 x73_1).f1.f2))) (fun k_ => P0_ k_)):=⟨by repeat (with_reducible first|exact HK.out|apply zr|apply zp|apply zq|refine zs ?_ (.inr GW422.out) _|refine zs ?_ (.inr GW455.out) _)⟩;have n5_ : Aside0 (Below w0.heap.size w0 ((((w64.setCell ⟨gb455,0,none⟩ (.string ((rd_T70 t450 x73_1).f0))).setCell ⟨gb455,1,none⟩ (.int .i64 ((rd_T70 t450 x73_1).f1.f0))).setCell ⟨gb455,2,none⟩ (.int .i64 ((rd_T70 t450 x73_1).f1.f1))).setCell ⟨gb455,3,none⟩ (.string ((rd_T70 t450 x73_1).f1.f2)))):=⟨by repeat (with_reducible first|exact HB.out|apply za|apply zb|apply zc|refine zd ?_ GE422.out|refine zd ?_ GE455.out)⟩;(try clear HO_0);(try clear HO_71);(try clear BK422);(try clear BK455);(try clear HK);(try clear HB);generalize ((((w64.setCell ⟨gb455,0,none⟩ (.string ((rd_T70 t450 x73_1).f0))).setCell ⟨gb455,1,none⟩ (.int .i64 ((rd_T70 t450 x73_1).f1.f0))).setCell ⟨gb455,2,none⟩ (.int .i64 ((rd_T70 t450 x73_1).f1.f1))).setCell ⟨gb455,3,none⟩ (.string ((rd_T70 t450 x73_1).f1.f2)))=w67 at n0_ n1_ n2_ n3_ n4_ n5_ ⊢;have HO_0:=n0_;have HO_71:=n1_;have BK422:=n2_;have BK455:=n3_;have HK:=n4_;have HB:=n5_;clear n0_ n1_ n2_ n3_ n4_ n5_;replace HO_0:=zh (zo HO_0.out);replace HO_71:=zh (zo HO_71.out);replace BK422:=zh (zf BK422.out);replace BK455:=zh (zf BK455.out);replace HK:=zh (zq HK.out);replace HB:=zh (zc HB.out);refine start_ (n:=10) (S:=fun w' => w'.cell? ⟨gb455,0,none⟩=some (.string ((rd_T70 t450 x73_1).f0))∧w'.cell? ⟨gb455,1,none⟩=some (.int .i64 ((rd_T70 t450 x73_1).f1.f0))∧w'.cell? ⟨gb455,2,none⟩=some (.int .i64 ((rd_T70 t450 x73_1).f1.f1))∧w'.cell? ⟨gb455,3,none⟩=some (.string ((rd_T70 t450 x73_1).f1.f2))) (ds:=[]) (bm_ 0 10) (by kernel_rfl) rfl rfl ⟨(zz BK455.out 0).trans rfl,(zz BK455.out 1).trans rfl,(zz BK455.out 2).trans rfl,(zz BK455.out 3).trans rfl⟩ (fun hHeld => ?_);refine with_tabW F4.tab22 F4.bits22 (fun HT_ HW_ => ?_);generalize w67.drew=w68 at HO_0 HO_71 BK422 BK455 HK HB hHeld ⊢;refine pure_ (i:=0) (N:=some 77) (v:=?_) (a':=?_) (bm_ 1 10) rfl rfl (any_of HT_.out (by kernel_rfl)) (fun _ _ _ h => h) (Or.inl ⟨by rfl,?_⟩) ?_ ?_;rotate_left
         ·
          intro w'
          go_simp
          with_reducible rfl
         rotate_left
         ·
          simp only [Act.put,zi,zj,zk,zG,zH]
          rfl
         refine pure_ (i:=3) (N:=some 80) (v:=?_) (a':=?_) #[true,false,false,true,false,false,false,false,false,false] rfl rfl (any_of HT_.out (by kernel_rfl)) (fun _ _ _ h => h) (Or.inl ⟨by rfl,?_⟩) ?_ ?_;rotate_left
         ·
          intro w'
          go_simp
          with_reducible rfl
         rotate_left
         ·
          simp only [Act.put,zi,zj,zk,zG,zH]
          rfl
         refine pure_ (i:=6) (N:=some 83) (v:=?_) (a':=?_) #[true,false,false,true,false,false,true,false,false,false] rfl rfl (any_of HT_.out (by kernel_rfl)) (fun _ _ _ h => h) (Or.inl ⟨by rfl,?_⟩) ?_ ?_;rotate_left
         ·
          intro w'
          go_simp
          with_reducible rfl
         rotate_left
         ·
          simp only [Act.put,zi,zj,zk,zG,zH]
          rfl
         refine take_ (i:=4) (N:=some 81) (v:=?_) (a':=?_) #[true,false,false,true,true,false,true,false,false,false] rfl rfl (yo HT_.out HW_.out (by kernel_rfl)) (fun _ _ _ h => h) (Or.inl ⟨by rfl,?_⟩) hHeld ?_ ?_;rotate_left
         ·
          rintro w' ⟨s0,s1,s2,s3⟩
          go_simp
          with_reducible rfl
         rotate_left
         ·
          simp only [Act.put,zi,zj,zk,zG,zH]
          rfl
         refine take_ (i:=7) (N:=some 84) (v:=?_) (a':=?_) #[true,false,false,true,true,false,true,true,false,false] rfl rfl (yo HT_.out HW_.out (by kernel_rfl)) (fun _ _ _ h => h) (Or.inl ⟨by rfl,?_⟩) hHeld ?_ ?_;rotate_left
         ·
          rintro w' ⟨s0,s1,s2,s3⟩
          go_simp
          with_reducible rfl
         rotate_left
         ·
          simp only [Act.put,zi,zj,zk,zG,zH]
          rfl
         refine one_ (i:=1) (N:=some 78) #[true,true,false,true,true,false,true,true,false,false] rfl rfl (one_of HT_.out (by kernel_rfl)) (by decide) (fun K hK => ?_);refine value_ (w1:=?_) (v:=?_) (by rfl) rfl ?_ ?_;rotate_left 2
         ·
          go_simp
          constructor
          ·
           rfl
          rfl
         refine hK.out _ _ ⟨(zz (zg BK455.out _) 0).trans rfl,(zz (zg BK455.out _) 1).trans rfl,(zz (zg BK455.out _) 2).trans rfl,(zz (zg BK455.out _) 3).trans rfl⟩ (fun hHeld => ?_);clear hK K;refine norm_ (a':=?_) ?_ ?_;rotate_left
         ·
          show Act.put _ (some 78) _=_
          simp only [Act.put,zi,zj,zk,zG,zH]
          rfl
         refine one_ (i:=2) (N:=some 79) #[true,true,true,true,true,false,true,true,false,false] rfl rfl (one_of HT_.out (by kernel_rfl)) (by decide) (fun K hK => ?_);refine Kd.R_append_step (Kd.int .u8) (w0:=w0) w0.heap.size (by rfl) (.tmp 77) (.tmp 78) 51 5 (.int .u8 0) 1 rfl Tryd.underlying51 info5 rfl (by decide) (by omega) u0 x0_1 1 [.int .u8 1] (fun k_ => (P0_ k_∨w.heap.size≤k_)) (fun _ => False) rfl rfl ?aP (fun _ hk => hk.elim) ?aF ?aO ?aB ?aS ?aL ?_;(case aP => exact rfl)
         (case aB => exact (by repeat (with_reducible first|exact HB.out|apply za|apply zb|apply zc|refine zd ?_ GE422.out|refine zd ?_ GE455.out)))
         (case aF => exact (fun k_ hk => (.inr (Nat.le_trans (by first|exact HK.out.1|exact (show Kept w _ (fun k_ => P0_ k_) from by repeat (with_reducible first|exact HK.out|apply zr|apply zp|apply zq|refine zs ?_ (.inr GW422.out) _|refine zs ?_ (.inr GW455.out) _)).1) hk))))
         (case aO => exact (by (with_reducible repeat (first|apply zm|apply zn|apply zo));exact HO_0.out))
         (case aS => exact (zB (by repeat (with_reducible first|exact HB.out|apply za|apply zb|apply zc|refine zd ?_ GE422.out|refine zd ?_ GE455.out))))
         (case aL => have:=LMc61.out;omega)
         intro v457 w69 ho hb hg hat;rw [← Ny456.out] at ho;replace HO_71:=zh (Kd.R_over' (by (with_reducible repeat (first|apply zm|apply zn|apply zo));exact HO_71.out) (Kd.R_typed (by (with_reducible repeat (first|apply zm|apply zn|apply zo));exact HO_0.out)) (by decide) hg);replace BK422:=zh (yw (g:=gb422) (o:=.cells #[.int .i64 a1_0,.int .i64 a1_1,.string a1_2] 31 (0,0)) (by (with_reducible repeat first|apply ze|apply zf|apply zg);exact BK422.out) hg (Kd.R_ne HO_0.out BK422.out (by decide)));replace BK455:=zh (yw (g:=gb455) (o:=.cells #[.string ((rd_T70 t450 x73_1).f0),.int .i64 ((rd_T70 t450 x73_1).f1.f0),.int .i64 ((rd_T70 t450 x73_1).f1.f1),.string ((rd_T70 t450 x73_1).f1.f2)] 70 (0,0)) (by (with_reducible repeat first|apply ze|apply zf|apply zg);exact BK455.out) hg (Kd.R_ne HO_0.out BK455.out (by decide)));replace HB:=zh (hb);replace HK:=zh (yA (S:=(fun k_ => P0_ k_)) hg (by repeat (with_reducible first|exact HK.out|apply zr|apply zp|apply zq|refine zs ?_ (.inr GW422.out) _|refine zs ?_ (.inr GW455.out) _)) (fun k_ e_ => (HO_0.out.1 k_ e_)));have HO458:=zh (ho);clear HO_0 ho hb hg hat;obtain ⟨Ao70,co70,eo70⟩:=yk HO458.out;(first|subst eo70|(injection eo70 with f1_ f2_ f3_;have f4_:=f1_.symm;have f5_:=f3_.symm;clear f1_ f2_ f3_;subst f4_;subst f5_));refine hK.out _ _ ⟨(zz BK455.out 0).trans rfl,(zz BK455.out 1).trans rfl,(zz BK455.out 2).trans rfl,(zz BK455.out 3).trans rfl⟩ (fun hHeld => ?_);clear hK K;refine norm_ (a':=?_) ?_ ?_;rotate_left
         ·
          show Act.put _ (some 79) _=_
          simp only [Act.put,zi,zj,zk,zG,zH]
          rfl
         refine one_ (i:=5) (N:=some 82) (bm_ 8 10) rfl rfl (one_of HT_.out (by kernel_rfl)) (by decide) (fun K hK => ?_);refine goes_ Tryd.func53 (by kernel_rfl) rfl #[.slice Ao70 y456.length co70,.string ((rd_T70 t450 x73_1).f0)] (by rfl) rfl rfl (by (try simp only [zt,zu,zv]);first|done|rfl|(simp only [zw,zx];rfl)|(simp only [yr,ys,zV,zW];rfl)) ?_
         with_reducible refine (Fk.calls k1  (fun k_ => some k_=(.slice Ao70 y456.length co70 : Value).ownBlock) (.slice Ao70 y456.length co70) y456 ((rd_T70 t450 x73_1).f0) t459 w0 _ ?side1 ?side2 A62.out).mono ?_
         (case side1 => repeat (with_reducible first|exact HB.out|apply za|apply zb|apply zc|refine zd ?_ GE422.out|refine zd ?_ GE455.out))
         (case side2 => exact Kd.R_tight rfl HO458.out)
         rintro e w71 ⟨v460,rfl,ho0,hb,hkp⟩;refine ⟨_,rfl,?_⟩;replace HO_71:=zh (zM (ok':=fun k_ => (P0_ k_∨w.heap.size≤k_)∧k_≠gb455) (Kd.R_keptB ((Kd.R_apart' HO_71.out (Kd.R_typed HO458.out) (by decide))) hkp (fun k_ hk_ hs_ => (hk_.2) hs_)) (fun k_ hk_ => ⟨hk_.1.1.1,hk_.1.1.2⟩));replace BK422:=zh (blk_kept (by (with_reducible repeat first|apply ze|apply zf|apply zg);exact BK422.out) hkp (fun hs_ => (fun e_ => (Kd.R_ne HO458.out BK422.out (by decide)) e_) hs_));replace BK455:=zh (blk_kept (by (with_reducible repeat first|apply ze|apply zf|apply zg);exact BK455.out) hkp (fun hs_ => (fun e_ => (Kd.R_ne HO458.out BK455.out (by decide)) e_) hs_));have HO461:=zh (zM (ok':=fun k_ => (P0_ k_∨w.heap.size≤k_)) ho0 (fun k_ hk_ => Or.elim hk_ (fun hs_ => (HO458.out.1 k_ (hs_).symm)) (fun hn_ => (.inr (Nat.le_trans (by first|exact HK.out.1|exact (show Kept w _ (fun k_ => P0_ k_) from by repeat (with_reducible first|exact HK.out|apply zr|apply zp|apply zq|refine zs ?_ (.inr GW422.out) _|refine zs ?_ (.inr GW455.out) _)).1) hn_)))));replace HK:=zh (Kept.then_ (S:=(fun k_ => P0_ k_)) (by repeat (with_reducible first|exact HK.out|apply zr|apply zp|apply zq|refine zs ?_ (.inr GW422.out) _|refine zs ?_ (.inr GW455.out) _)) hkp (fun k_ hs_ => (fun e_ => (HO458.out.1 k_ e_.symm)) hs_));replace HB:=zh (hb);clear HO458;(try clear hb);(try clear hkp);(try clear ho0);obtain ⟨Ao72,co72,eo72⟩:=yk HO461.out;(first|subst eo72|(injection eo72 with f1_ f2_ f3_;have f4_:=f1_.symm;have f5_:=f3_.symm;clear f1_ f2_ f3_;subst f4_;subst f5_));refine hK.out _ _ ⟨(zz BK455.out 0).trans rfl,(zz BK455.out 1).trans rfl,(zz BK455.out 2).trans rfl,(zz BK455.out 3).trans rfl⟩ (fun hHeld => ?_);clear hK K;refine norm_ (a':=?_) ?_ ?_;rotate_left
         ·
          show Act.put _ (some 82) _=_
          simp only [Act.put,zi,zj,zk,zG,zH]
          rfl
         refine one_ (i:=8) (N:=some 85) (bm_ 9 10) rfl rfl (one_of HT_.out (by kernel_rfl)) (by decide) (fun K hK => ?_);refine goes_ Tryd.func40 (by kernel_rfl) rfl #[.slice Ao72 t459.length co72,.agg #[.int .i64 ((rd_T70 t450 x73_1).f1.f0),.int .i64 ((rd_T70 t450 x73_1).f1.f1),.string ((rd_T70 t450 x73_1).f1.f2)]] (by rfl) rfl rfl (by (try simp only [zt,zu,zv]);first|done|rfl|(simp only [zw,zx];rfl)|(simp only [yr,ys,zV,zW];rfl)) ?_
         with_reducible refine (ih k1 (by have:=HK1.out;omega)  (fun k_ => some k_=(.slice Ao72 t459.length co72 : Value).ownBlock) (.slice Ao72 t459.length co72) t459 ((rd_T70 t450 x73_1).f1.f0) ((rd_T70 t450 x73_1).f1.f1) ((rd_T70 t450 x73_1).f1.f2) t462 w0 _ ?side1 ?side2 A63.out).mono ?_
         (case side1 => repeat (with_reducible first|exact HB.out|apply za|apply zb|apply zc|refine zd ?_ GE422.out|refine zd ?_ GE455.out))
         (case side2 => exact Kd.R_tight rfl HO461.out)
         rintro e w73 ⟨v463,rfl,ho0,hb,hkp⟩;refine ⟨_,rfl,?_⟩;replace HO_71:=zh (zM (ok':=fun k_ => (P0_ k_∨w.heap.size≤k_)∧k_≠gb455) (Kd.R_keptB ((Kd.R_apart' HO_71.out (Kd.R_typed HO461.out) (by decide))) hkp (fun k_ hk_ hs_ => (hk_.2) hs_)) (fun k_ hk_ => ⟨hk_.1.1.1,hk_.1.1.2⟩));replace BK422:=zh (blk_kept (by (with_reducible repeat first|apply ze|apply zf|apply zg);exact BK422.out) hkp (fun hs_ => (fun e_ => (Kd.R_ne HO461.out BK422.out (by decide)) e_) hs_));replace BK455:=zh (blk_kept (by (with_reducible repeat first|apply ze|apply zf|apply zg);exact BK455.out) hkp (fun hs_ => (fun e_ => (Kd.R_ne HO461.out BK455.out (by decide)) e_) hs_));have HO464:=zh (zM (ok':=fun k_ => (P0_ k_∨w.heap.size≤k_)) ho0 (fun k_ hk_ => Or.elim hk_ (fun hs_ => (HO461.out.1 k_ (hs_).symm)) (fun hn_ => (.inr (Nat.le_trans (by first|exact HK.out.1|exact (show Kept w _ (fun k_ => P0_ k_) from by repeat (with_reducible first|exact HK.out|apply zr|apply zp|apply zq|refine zs ?_ (.inr GW422.out) _|refine zs ?_ (.inr GW455.out) _)).1) hn_)))));replace HK:=zh (Kept.then_ (S:=(fun k_ => P0_ k_)) (by repeat (with_reducible first|exact HK.out|apply zr|apply zp|apply zq|refine zs ?_ (.inr GW422.out) _|refine zs ?_ (.inr GW455.out) _)) hkp (fun k_ hs_ => (fun e_ => (HO461.out.1 k_ e_.symm)) hs_));replace HB:=zh (hb);clear HO461;(try clear hb);(try clear hkp);(try clear ho0);refine hK.out _ _ ⟨(zz BK455.out 0).trans rfl,(zz BK455.out 1).trans rfl,(zz BK455.out 2).trans rfl,(zz BK455.out 3).trans rfl⟩ (fun hHeld => ?_);clear hK K;refine norm_ (a':=?_) ?_ ?_;rotate_left
         ·
          show Act.put _ (some 85) _=_
          simp only [Act.put,zi,zj,zk,zG,zH]
          rfl
         refine pure_ (i:=9) (N:=some 0) (v:=?_) (a':=?_) (bm_ 10 10) rfl rfl (any_of HT_.out (by kernel_rfl)) (fun _ _ _ h => h) (Or.inl ⟨by rfl,?_⟩) ?_ ?_;rotate_left
         ·
          intro w'
          go_simp
          with_reducible rfl
         rotate_left
         ·
          simp only [Act.put,zi,zj,zk,zG,zH]
          rfl
         refine done_ (done_of HT_.out (by kernel_rfl)) ?_
         try go_wp2
         go_roundg k1
         case measure => have:=HK1.out;omega
         case rel => exact ⟨(t462),(wrap64 (x73_1 + 1)),(by first|rfl|(simp;done)|(simp [*];done)),H',⟨by have:=HK1.out;omega⟩,⟨by (with_reducible repeat (first|apply zm|apply zn|apply zo));exact HO464.out⟩,⟨by (with_reducible repeat (first|apply zm|apply zn|apply zo));exact zM HO_71.out (fun _ hk => hk.1)⟩,⟨by (with_reducible repeat first|apply ze|apply zf|apply zg);exact BK422.out⟩,⟨by repeat (with_reducible first|exact HK.out|apply zr|apply zp|apply zq|refine zs ?_ (.inr GW422.out) _|refine zs ?_ (.inr GW455.out) _)⟩,⟨by repeat (with_reducible first|exact HB.out|apply za|apply zb|apply zc|refine zd ?_ GE422.out|refine zd ?_ GE455.out)⟩⟩
        rw [if_neg c61] at H;exact absurd H (by simp)
       rw [if_neg c60] at H;exact absurd H (by simp)
      rw [if_neg c59] at H;exact absurd H (by simp)
     rw [if_neg c58] at H;have c58b0 : decide (x73_1<(t450.length : Int))=false:=decide_eq_false c58;clear c58
     by_cases c74 : x0_1.length<140737488355328
     ·
      rw [if_pos c74] at H
      have LMc74:=zh c74;clear c74;obtain ⟨y465,hy465⟩ : ∃ y_ : List Int,y_=(x0_1 ++ [0]):=⟨_,rfl⟩;replace H : (some y465)=some r:=by first|(rw [hy465];with_reducible exact H)|(have H2_:=(Option.bind_some _ _).symm.trans H;rw [hy465];with_reducible exact H2_)|(have H2_:=(Option.bind_some _ _).symm.trans H;with_reducible exact H2_)|with_reducible exact H|(rw [hy465];exact H)|exact H
      have Ny465:=zh hy465;clear hy465;obtain rfl:=zU H
      go_wp2_with (first|((with_reducible refine yB (b:=.append) (xs:=#[.tmp 87,.tmp 88]) rfl ?_);at_builtin;refine Kd.R_append (Kd.int .u8) (w0:=w0) w0.heap.size rfl (.tmp 87) (.tmp 88) 51 5 (.int .u8 0) 1 rfl Tryd.underlying51 info5 rfl (by decide) (by omega) u0 x0_1 0 [.int .u8 0] (fun k_ => (P0_ k_∨w.heap.size≤k_)) (fun _ => False) rfl rfl ?aP (fun _ hk => hk.elim) ?aF ?aO ?aB ?aS ?aL ?_;(case aP => exact rfl);(case aB => exact (by repeat (with_reducible first|exact HB.out|apply za|apply zb|apply zc|refine zd ?_ GE422.out)));(case aF => exact (fun k_ hk => (.inr (Nat.le_trans (by first|exact HK.out.1|exact (show Kept w _ (fun k_ => P0_ k_) from by repeat (with_reducible first|exact HK.out|apply zr|apply zp|apply zq|refine zs ?_ (.inr GW422.out) _)).1) hk))));(case aO => exact (by (with_reducible repeat (first|apply zm|apply zn|apply zo));exact HO_0.out));(case aS => exact (zB (by repeat (with_reducible first|exact HB.out|apply za|apply zb|apply zc|refine zd ?_ GE422.out))));(case aL => have:=LMc74.out;omega);intro v466 w75 ho hb hg hat;rw [← Ny465.out] at ho;replace HO_71:=zh (Kd.R_over' (by (with_reducible repeat (first|apply zm|apply zn|apply zo));exact HO_71.out) (Kd.R_typed (by (with_reducible repeat (first|apply zm|apply zn|apply zo));exact HO_0.out)) (by decide) hg);replace BK422:=zh (yw (g:=gb422) (o:=.cells #[.int .i64 a1_0,.int .i64 a1_1,.string a1_2] 31 (0,0)) (by (with_reducible repeat first|apply ze|apply zf|apply zg);exact BK422.out) hg (Kd.R_ne HO_0.out BK422.out (by decide)));replace HB:=zh (hb);replace HK:=zh (yA (S:=(fun k_ => P0_ k_)) hg (by repeat (with_reducible first|exact HK.out|apply zr|apply zp|apply zq|refine zs ?_ (.inr GW422.out) _)) (fun k_ e_ => (HO_0.out.1 k_ e_)));have HO467:=zh (ho);clear HO_0 ho hb hg hat))
      go_ret
      exact ⟨_,by first|rfl|(simp [yt,yu] <;> rfl)|(simp [*,yt,yu] <;> rfl),by (with_reducible repeat (first|apply zm|apply zn|apply zo));exact HO467.out,by repeat (with_reducible first|exact HB.out|apply za|apply zb|apply zc|refine zd ?_ GE422.out),by repeat (with_reducible first|exact HK.out|apply zr|apply zp|apply zq|refine zs ?_ (.inr GW422.out) _)⟩
     rw [if_neg c74] at H;exact absurd H (by simp)
  rw [if_neg c50] at H;have c50b0 : (a1_0 == 5)=false:=zY.mpr c50;have c50b1 : (a1_0 != 5)=true:=zZ.mpr c50;obtain rfl:=zU H
  go_enter Tryd.func40,Tryd.ntmps40
  go_wp2_with (first|((with_reducible refine zK (N:=3) rfl ?_);refine zI ?hg (N:=3) ?hd (cs:=#[.int .i64 a1_0,.int .i64 a1_1,.string a1_2]) (t:=31) ?hr ?_;(case hd|hg => rfl);(case hr => go_simp <;> rfl);intro gb422 hg w76 hbox hb;replace HO0:=zh (yg (by (with_reducible repeat (first|apply zm|apply zn|apply zo));exact HO0.out) hb);have BK422:=zh (hbox);have GW422:=zh ((by rw [hg];exact (by first|exact HK.out.1|exact (show Kept w _ (fun k_ => P0_ k_) from by repeat (with_reducible first|exact HK.out|apply zr|apply zp|apply zq)).1) : w.heap.size≤gb422));replace HK:=zh (Kept.below (S:=(fun k_ => P0_ k_)) (by repeat (with_reducible first|exact HK.out|apply zr|apply zp|apply zq)) hb);have GE422:=zh ((by rw [hg];exact (zB (by repeat (with_reducible first|exact HB.out|apply za|apply zb|apply zc))) : w0.heap.size≤gb422));replace HB:=zh (zC (by repeat (with_reducible first|exact HB.out|apply za|apply zb|apply zc)) hb);clear hb hbox hg;obtain ⟨hcz77_0,hcz77_1,hcz77_2,hfz77_0,hfz77_1,hfz77_2⟩:=cB3 BK422.out)|((with_reducible refine yB (b:=.append) (xs:=#[.tmp 13,.tmp 18]) rfl ?_);at_builtin;refine Kd.R_append (Kd.int .u8) (w0:=w0) w0.heap.size rfl (.tmp 13) (.tmp 18) 51 5 (.int .u8 0) 1 rfl Tryd.underlying51 info5 rfl (by decide) (by omega) u9000_ l0 ((wrap64 (a1_0 + 1)) % 256) [.int .u8 ((wrap64 (a1_0 + 1)) % 256)] (fun k_ => (P0_ k_∨w.heap.size≤k_)) (fun _ => False) rfl rfl ?aP (fun _ hk => hk.elim) ?aF ?aO ?aB ?aS ?aL ?_;(case aP => exact rfl);(case aB => exact (by repeat (with_reducible first|exact HB.out|apply za|apply zb|apply zc|refine zd ?_ GE422.out)));(case aF => exact (fun k_ hk => (.inr (Nat.le_trans (by first|exact HK.out.1|exact (show Kept w _ (fun k_ => P0_ k_) from by repeat (with_reducible first|exact HK.out|apply zr|apply zp|apply zq|refine zs ?_ (.inr GW422.out) _)).1) hk))));(case aO => exact (by (with_reducible repeat (first|apply zm|apply zn|apply zo));exact HO0.out));(case aS => exact (zB (by repeat (with_reducible first|exact HB.out|apply za|apply zb|apply zc|refine zd ?_ GE422.out))));(case aL => have:=LMc3.out;omega);intro v424 w78 ho hb hg hat;rw [← Ny423.out] at ho;replace BK422:=zh (yw (g:=gb422) (o:=.cells #[.int .i64 a1_0,.int .i64 a1_1,.string a1_2] 31 (0,0)) (by (with_reducible repeat first|apply ze|apply zf|apply zg);exact BK422.out) hg (Kd.R_ne HO0.out BK422.out (by decide)));replace HB:=zh (hb);replace HK:=zh (yA (S:=(fun k_ => P0_ k_)) hg (by repeat (with_reducible first|exact HK.out|apply zr|apply zp|apply zq|refine zs ?_ (.inr GW422.out) _)) (fun k_ e_ => (HO0.out.1 k_ e_)));have HO425:=zh (ho);clear HO0 ho hb hg hat;obtain ⟨hcz79_0,hcz79_1,hcz79_2,hfz79_0,hfz79_1,hfz79_2⟩:=cB3 BK422.out))
  go_ret
  exact ⟨_,by first|rfl|(simp [yt,yu] <;> rfl)|(simp [*,yt,yu] <;> rfl),by (with_reducible repeat (first|apply zm|apply zn|apply zo));exact HO425.out,by repeat (with_reducible first|exact HB.out|apply za|apply zb|apply zc|refine zd ?_ GE422.out),by repeat (with_reducible first|exact HK.out|apply zr|apply zp|apply zq|refine zs ?_ (.inr GW422.out) _)⟩
 rw [if_neg c3] at H;exact absurd H (by simp)

end Go.Proofs.YthjgfjlogilleabDoor.Q
end
section
namespace Go.Proofs.YthjgfjlogilleabDoor.Q
open Go.RowKit Go.Proofs.YthjgfjlogilleabDoorW.PrintWords Go.Proofs.YthjgfjlogilleabDoorW.PrintLast Go.Proofs.YthjgfjlogilleabDoorW.PrintMore
attribute [local go_sem] max2_int min2_int max_two min_two max_three min_three max_four min_four max2_str min2_str str_geq str_gtr str_leq
set_option linter.unusedVariables false
set_option linter.unusedSimpArgs false

def F0b.f (k : Nat) (a0_0 : Int) (a0_1 : Int) (a0_2 : ByteArray) (a1 : Bool) : Option (ByteArray):=(F4.f k ([] : List Int) a0_0 a0_1 a0_2).bind fun t469 => ((Fu.f t469 a1).bind fun t472 => (some t472))
theorem F0b.mono : ∀ a0 a1 a2 a3 k,LeO (F0b.f k a0 a1 a2 a3) (F0b.f (k + 1) a0 a1 a2 a3):=by
 intro a0 a1 a2 a3 k;unfold F0b.f
 repeat' first|(with_reducible first|exact F4.mono _ _ _ _ _|exact zQ _|exact zN _|refine zP ?_ ?_|refine zO ?_ (fun _ => ?_))|refine zP ?_ ?_|refine zO ?_ (fun _ => ?_)
set_option maxHeartbeats 8000000 in
set_option maxRecDepth 100000 in
theorem F0b.calls (k : Nat) (a0_0 : Int) (a0_1 : Int) (a0_2 : ByteArray) (a1 : Bool) (r : ByteArray) (w : World) (h : F0b.f k a0_0 a0_1 a0_2 a1=some r) :
  Calls Tryd.prog 26 #[.agg #[.int .i64 a0_0,.int .i64 a0_1,.string a0_2],.bool a1] w fun e w' => e = .returned (.string r)∧Below w.heap.size w w':=by
 have hu31:=Tryd.underlying31;have HB:=zh (Below.refl w.heap.size w);have H : ((F4.f k ([] : List Int) a0_0 a0_1 a0_2).bind fun t469 => ((Fu.f t469 a1).bind fun t472 => (some t472)))=some r:=h;clear h;replace H:=zT.mp H;obtain ⟨t469,A30,H⟩:=H;replace H : ((Fu.f t469 a1).bind fun t472 => (some t472))=some r:=H;have A3:=zh A30;clear A30;replace H:=zT.mp H;obtain ⟨t472,A40,H⟩:=H;replace H : (some t472)=some r:=H;have A4:=zh A40;clear A40;obtain rfl:=zU H
 go_enter Tryd.func26,Tryd.ntmps26
 go_wp2_with (first|((with_reducible refine zK (N:=2) rfl ?_);refine zI ?hg (N:=2) ?hd (cs:=#[.int .i64 a0_0,.int .i64 a0_1,.string a0_2]) (t:=31) ?hr ?_;(case hd|hg => rfl);(case hr => go_simp <;> rfl);intro gb468 hg w5 hbox hb;have BK468:=zh (hbox);have hH_:=cH (by repeat (with_reducible first|exact HB.out|apply za|apply zb|apply zc)) hb hg;have GW468:=zh hH_.1;have GE468:=GW468;replace HB:=zh hH_.2;clear hb hbox hg hH_;obtain ⟨hcz6_0,hcz6_1,hcz6_2,hfz6_0,hfz6_1,hfz6_2⟩:=cB3 BK468.out)|((with_reducible refine zJ (f:=40) rfl ?_);refine yj (some 6) rfl rfl Tryd.func40 (by kernel_rfl) rfl #[.slice none 0 0,.agg #[.int .i64 a0_0,.int .i64 a0_1,.string a0_2]] rfl (by (try simp only [zt,zu,zv]);first|done|rfl|(simp only [zw,zx];rfl)|(simp only [yr,ys,zV,zW];rfl)) ?_;(refine (F4.calls k  (fun k_ => some k_=(.slice none 0 0 : Value).ownBlock) (.slice none 0 0) ([] : List Int) a0_0 a0_1 a0_2 t469 w _ ?side1 ?side2 A3.out).mono ?_);(case side1 => repeat (with_reducible first|exact HB.out|apply za|apply zb|apply zc|refine zd ?_ GE468.out));(case side2 => exact Kd.R_nil _ _ _ _ _);rintro e w7 ⟨v470,rfl,ho0,hb,hkp⟩;refine ⟨_,rfl,?_⟩;replace BK468:=zh (blk_kept (by (with_reducible repeat first|apply ze|apply zf|apply zg);exact BK468.out) hkp (fun hs_ => (fun e_ => by simp [Value.ownBlock] at e_) hs_));have HO471:=zh (zM (ok':=fun k_ => True) ho0 (fun k_ hk_ => trivial));replace HB:=zh (hb);(try clear hb);(try clear hkp);(try clear ho0);obtain ⟨Ao8,co8,eo8⟩:=yk HO471.out;subst eo8)|((with_reducible refine zJ (f:=28) rfl ?_);refine yj (some 8) rfl rfl Tryd.func28 (by kernel_rfl) rfl #[.slice Ao8 t469.length co8,.bool a1] rfl (by (try simp only [zt,zu,zv]);first|done|rfl|(simp only [zw,zx];rfl)|(simp only [yr,ys,zV,zW];rfl)) ?_;(with_reducible refine (Fu.calls  (fun k_ => some k_=(.slice Ao8 t469.length co8 : Value).ownBlock) (.slice Ao8 t469.length co8) t469 a1 t472 w _ ?side1 ?side2 A4.out).mono ?_);(case side1 => repeat (with_reducible first|exact HB.out|apply za|apply zb|apply zc|refine zd ?_ GE468.out));(case side2 => exact Kd.R_tight rfl HO471.out);rintro e w9 ⟨rfl,hb,hkp⟩;refine ⟨_,rfl,?_⟩;replace BK468:=zh (blk_kept (by (with_reducible repeat first|apply ze|apply zf|apply zg);exact BK468.out) hkp (fun hs_ => (fun e_ => (Kd.R_ne HO471.out BK468.out (by decide)) e_) hs_));replace HB:=zh (hb);clear HO471;(try clear hb);(try clear hkp)))
 go_ret
 exact ⟨by first|rfl|(simp [yt,yu] <;> rfl)|(simp [*,yt,yu] <;> rfl),by repeat (with_reducible first|exact HB.out|apply za|apply zb|apply zc|refine zd ?_ GE468.out)⟩


def Fd.l0 : Nat→ByteArray→Int→Option (ByteArray×ByteArray×Bool)
 | 0,_,_ => none
 | k + 1,x0,x3 => if x3 ≥ 0 then (if 0≤x3 then (if x3<(x0.size : Int) then (if (bt x0 x3)<255 then (if x3≤(x0.size : Int) then ((some (([((bt x0 x3) + 1) % 256] : List Int) : List Int)).bind fun y474 => (if (x0.extract 0 (x3 : Int).toNat).size + (strOfNums y474).size≤9223372036854775807 then (some (x0,(x0.extract 0 (x3 : Int).toNat) ++ (strOfNums y474),false)) else (none))) else (none)) else (Fd.l0 k x0 (wrap64 (x3 - 1)))) else (none)) else (none)) else (some (x0,(⟨#[]⟩ : ByteArray),true))
def Fd.f (k : Nat) (a0 : ByteArray) : Option (ByteArray×ByteArray×Bool):=Fd.l0 k a0 (wrap64 ((a0.size : Int) - 1))
theorem Fd.mono_l : ∀ k,(∀ y0 y1,LeO (Fd.l0 k y0 y1) (Fd.l0 (k + 1) y0 y1))
 | 0 => fun _ _ r h => by simp [Fd.l0] at h
 | k + 1 => by
  have ih0:=Fd.mono_l k;intro y0 y1;unfold Fd.l0
  repeat' first|(with_reducible first|exact ih0 _ _|exact zQ _|exact zN _|refine zP ?_ ?_|refine zO ?_ (fun _ => ?_))|refine zP ?_ ?_|refine zO ?_ (fun _ => ?_)
theorem Fd.mono : ∀ a0 k,LeO (Fd.f k a0) (Fd.f (k + 1) a0):=by
 intro a0 k;have ih0:=Fd.mono_l k;unfold Fd.f
 repeat' first|(with_reducible first|exact ih0 _ _|exact zQ _|exact zN _|refine zP ?_ ?_|refine zO ?_ (fun _ => ?_))|refine zP ?_ ?_|refine zO ?_ (fun _ => ?_)
def Fd.T5 : Bool×List (List Nat×List Nat):=(true,[([],[]),([],[]),([],[]),([1,2],[1,2]),([],[]),([],[]),([4,5],[4,5]),([6],[6]),([7],[7]),([8],[8]),([3,9],[3,9]),([0,10],[0,10]),([11,0,1,2,3,4,5,6,7,8,9,10,11],[11])])
def Fd.B5 : List Nat:=[0,0,0,6,0,0,48,112,240,496,1022,2047,4095]
theorem Fd.tab5 : rtab .any (opsOf Tryd.f27 5)=Fd.T5:=by kernel_rfl
theorem Fd.bits5 : waitsOk Fd.T5.2 Fd.B5=true:=by kernel_rfl
set_option maxHeartbeats 8000000 in
set_option maxRecDepth 100000 in
theorem Fd.calls (k : Nat) (a0 : ByteArray) (r1 : ByteArray) (r2 : ByteArray) (r3 : Bool) (w : World) (h : Fd.f k a0=some (r1,r2,r3)) :
  Calls Tryd.prog 27 #[.string a0] w fun e w' => e = .returned (.agg #[.string r1,.string r2,.bool r3])∧Below w.heap.size w w':=by
 have hu28:=Tryd.underlying28;have HB:=zh (Below.refl w.heap.size w);have H : (Fd.l0 k a0 (wrap64 ((a0.size : Int) - 1)))=some (r1,r2,r3):=h;clear h;have H':=zh H;clear H
 go_enter Tryd.func27,Tryd.ntmps27
 go_wp2_with (first|((with_reducible refine zK (N:=2) rfl ?_);refine zI ?hg (N:=2) ?hd (cs:=#[.string (⟨#[]⟩ : ByteArray),.string (⟨#[]⟩ : ByteArray),.bool false]) (t:=28) ?hr ?_;(case hd|hg => rfl);(case hr => go_simp <;> rfl);intro gb473 hg w2 hbox hb;have BK473:=zh (hbox);have hH_:=cH (by repeat (with_reducible first|exact HB.out|apply za|apply zb|apply zc)) hb hg;have GW473:=zh hH_.1;have GE473:=GW473;replace HB:=zh hH_.2;clear hb hbox hg hH_))
 go_loopg [3] k (fun kq v3 w' => ∃ (x3_1 : Int) (x474000_1 : ByteArray) (x474001_1 : ByteArray) (x474002_1 : Bool),v3 = .int .i64 x3_1∧Aside0 (Fd.l0 kq a0 x3_1=some (r1,r2,r3))∧Aside0 (kq≤k)∧Aside0 (w'.heap[gb473]? = some (.cells #[.string x474000_1,.string x474001_1,.bool x474002_1] 28 (0,0)))∧Aside0 (Below w.heap.size w w'))
 case atStart => exact ⟨(wrap64 ((a0.size : Int) - 1)),((⟨#[]⟩ : ByteArray)),((⟨#[]⟩ : ByteArray)),(false),(by first|rfl|(simp;done)|(simp [*];done)),H',⟨ye _⟩,⟨by (with_reducible repeat first|apply ze|apply zf|apply zg);exact BK473.out⟩,⟨by repeat (with_reducible first|exact HB.out|apply za|apply zb|apply zc|refine zd ?_ GE473.out)⟩⟩
 case round =>
  clear H'
  try clear c2
  try clear p2
  obtain ⟨x3_1,x474000_1,x474001_1,x474002_1,rfl,HA,HK1,BK473,HB⟩:=hrel
  cases gk with
  | zero => exact absurd HA.out (by simp [Fd.l0])
  | succ k1 =>
   have H:=HA.out;clear HA;simp only [Fd.l0] at H
   by_cases c3 : x3_1 ≥ 0
   ·
    rw [if_pos c3] at H
    have c3b0 : decide (0≤x3_1)=true:=decide_eq_true c3;clear c3
    by_cases c4 : 0≤x3_1
    ·
     rw [if_pos c4] at H
     have c4b0 : decide (0≤x3_1)=true:=decide_eq_true c4;clear c4
     by_cases c5 : x3_1<(a0.size : Int)
     ·
      rw [if_pos c5] at H
      have c5b0 : decide (x3_1<(a0.size : Int))=true:=decide_eq_true c5;clear c5
      by_cases c7 : (bt a0 x3_1)<255
      ·
       rw [if_pos c7] at H
       have c7b0 : decide ((bt a0 x3_1)<255)=true:=decide_eq_true c7;clear c7;have c8b0:=eq_true (zy (by first|(with_reducible assumption)|assumption) : 0≤x3_1)
       by_cases c9 : x3_1≤(a0.size : Int)
       ·
        rw [if_pos c9] at H
        have c9b0:=eq_true c9;have c9b1 : decide (x3_1≤(a0.size : Int))=true:=decide_eq_true c9;clear c9;obtain ⟨y474,hy474⟩ : ∃ y_ : List Int,y_=(([((bt a0 x3_1) + 1) % 256] : List Int)):=⟨_,rfl⟩;replace H : (if (a0.extract 0 (x3_1 : Int).toNat).size + (strOfNums y474).size≤9223372036854775807 then (some (a0,(a0.extract 0 (x3_1 : Int).toNat) ++ (strOfNums y474),false)) else (none))=some (r1,r2,r3):=by first|(rw [hy474];with_reducible exact H)|(have H2_:=(Option.bind_some _ _).symm.trans H;rw [hy474];with_reducible exact H2_)|(have H2_:=(Option.bind_some _ _).symm.trans H;with_reducible exact H2_)|with_reducible exact H|(rw [hy474];exact H)|exact H
        have Ny474:=zh hy474;clear hy474
        by_cases c11 : (a0.extract 0 (x3_1 : Int).toNat).size + (strOfNums y474).size≤9223372036854775807
        ·
         rw [if_pos c11] at H
         have c11b0:=eq_true c11;have c11b1 : decide ((a0.extract 0 (x3_1 : Int).toNat).size + (strOfNums y474).size≤9223372036854775807)=true:=decide_eq_true c11
         try have c11b2 : (9223372036854775807<(a0.extract 0 (x3_1 : Int).toNat).size + (strOfNums y474).size)=False:=eq_false (Nat.not_lt.2 c11)
         try have c11b6 : (9223372036854775807<x3_1.toNat + (strOfNums y474).size)=False:=eq_false (by have hq_:=c11;have hx_ : x3_1≤(a0.size : Int):=zy (by first|(with_reducible assumption)|assumption);simp only [ByteArray.size_extract] at hq_;omega)
         simp only [Option.some.injEq,Prod.mk.injEq] at H;obtain ⟨rfl,rfl,rfl⟩:=H;have p6 : 0≤(x3_1 : Int):=zy (by first|(with_reducible assumption)|assumption);have q6 : x3_1<(a0.size : Int):=zy (by first|(with_reducible assumption)|assumption);have hx6:=bt_at a0 x3_1;replace p6:=eq_true p6;replace q6:=eq_true q6
         try go_wp2
         replace BK473:=zh (zf BK473.out);replace HB:=zh (zc HB.out);have p10 : 0≤(x3_1 : Int):=zy (by first|(with_reducible assumption)|assumption);have q10 : x3_1<(a0.size : Int):=zy (by first|(with_reducible assumption)|assumption);have hx10:=bt_at a0 x3_1;replace p10:=eq_true p10;replace q10:=eq_true q10;refine start_ (n:=13) (S:=fun w' => True) (ds:=[]) (bm_ 0 13) (by kernel_rfl) rfl rfl trivial (fun hHeld => ?_);refine with_tabW Fd.tab5 Fd.bits5 (fun HT_ HW_ => ?_);generalize wr.drew=w12 at BK473 HB hHeld ⊢;refine pure_ (i:=0) (N:=some 15) (v:=?_) (a':=?_) (bm_ 1 13) rfl rfl (any_of HT_.out (by kernel_rfl)) (fun _ _ _ h => h) (Or.inl ⟨by rfl,?_⟩) ?_ ?_;rotate_left
         ·
          intro w'
          go_simp
          with_reducible rfl
         rotate_left
         ·
          simp only [Act.put,zi,zj,zk,zG,zH]
          rfl
         refine pure_ (i:=1) (N:=some 16) (v:=?_) (a':=?_) (bm_ 2 13) rfl rfl (any_of HT_.out (by kernel_rfl)) (fun _ _ _ h => h) (Or.inl ⟨by rfl,?_⟩) ?_ ?_;rotate_left
         ·
          intro w'
          go_simp
          with_reducible rfl
         rotate_left
         ·
          simp only [Act.put,zi,zj,zk,zG,zH]
          rfl
         refine pure_ (i:=2) (N:=some 17) (v:=?_) (a':=?_) (bm_ 3 13) rfl rfl (any_of HT_.out (by kernel_rfl)) (fun _ _ _ h => h) (Or.inl ⟨by rfl,?_⟩) ?_ ?_;rotate_left
         ·
          intro w'
          go_simp
          with_reducible rfl
         rotate_left
         ·
          simp only [Act.put,zi,zj,zk,zG,zH]
          rfl
         refine pure_ (i:=3) (N:=some 18) (v:=?_) (a':=?_) (bm_ 4 13) rfl rfl (any_of HT_.out (by kernel_rfl)) (fun _ _ _ h => h) (Or.inl ⟨by rfl,?_⟩) ?_ ?_;rotate_left
         ·
          intro w'
          go_simp
          with_reducible rfl
         rotate_left
         ·
          simp only [Act.put,zi,zj,zk,zG,zH]
          rfl
         refine pure_ (i:=4) (N:=some 19) (v:=?_) (a':=?_) (bm_ 5 13) rfl rfl (any_of HT_.out (by kernel_rfl)) (fun _ _ _ h => h) (Or.inl ⟨by rfl,?_⟩) ?_ ?_;rotate_left
         ·
          intro w'
          go_simp
          with_reducible rfl
         rotate_left
         ·
          simp only [Act.put,zi,zj,zk,zG,zH]
          rfl
         refine pure_ (i:=5) (N:=some 20) (v:=?_) (a':=?_) (bm_ 6 13) rfl rfl (any_of HT_.out (by kernel_rfl)) (fun _ _ _ h => h) (Or.inl ⟨by rfl,?_⟩) ?_ ?_;rotate_left
         ·
          intro w'
          go_simp
          with_reducible rfl
         rotate_left
         ·
          simp only [Act.put,zi,zj,zk,zG,zH]
          rfl
         refine take_ (i:=6) (N:=some 21) (v:=?_) (a':=?_) (bm_ 7 13) rfl rfl (yo HT_.out HW_.out (by kernel_rfl)) (fun _ _ _ h => h) (Or.inl ⟨by rfl,?_⟩) hHeld ?_ ?_;rotate_left
         ·
          intro w' _
          go_simp
          with_reducible rfl
         rotate_left
         ·
          simp only [Act.put,zi,zj,zk,zG,zH]
          rfl
         refine pure_ (i:=7) (N:=some 22) (v:=?_) (a':=?_) (bm_ 8 13) rfl rfl (any_of HT_.out (by kernel_rfl)) (fun _ _ _ h => h) (Or.inl ⟨by rfl,?_⟩) ?_ ?_;rotate_left
         ·
          intro w'
          go_simp
          with_reducible rfl
         rotate_left
         ·
          simp only [Act.put,zi,zj,zk,zG,zH]
          rfl
         refine one_ (i:=8) (N:=some 23) (bm_ 9 13) rfl rfl (one_of HT_.out (by kernel_rfl)) (by decide) (fun K hK => ?_);refine Kd.R_lit_step (Kd.int .u8) _ 5 ?hg (N:=23) ?hd (xs:=([((bt a0 x3_1) + 1) % 256] : List Int)) (inner:=[.int .u8 (((bt a0 x3_1) + 1) % 256)]) (ok:=fun _ => True) (okp:=fun _ => True) ?hr ?hp (fun _ hk => hk) trivial (Below.refl _ _) (ye _) (by simp) ?_;(case hd|hg => rfl);(case hr => go_simp <;> rfl);(case hp => exact (Reps.one (show Kd.M (Kd.int .u8) _ _ _ (((bt a0 x3_1) + 1) % 256) [.int .u8 (((bt a0 x3_1) + 1) % 256)] from rfl) (Reps.none _ _)));intro v475 w13 ho14 hb hg_ hnew_;clear hg_ hnew_;(first|rw [← Ny474.out] at ho14|(simp only [Int.reduceToNat] at ho14;rw [← Ny474.out] at ho14));have HO476:=zh (yy ho14 (zB (by repeat (with_reducible first|exact HB.out|apply za|apply zb|apply zc|refine zd ?_ GE473.out))));replace BK473:=zh (cD BK473.out (by (with_reducible repeat first|apply ze|apply zf|apply zg);exact BK473.out) hb);replace HB:=zh (zC (by repeat (with_reducible first|exact HB.out|apply za|apply zb|apply zc|refine zd ?_ GE473.out)) hb);clear hb ho14;refine hK.out _ _ trivial (fun hHeld => ?_);clear hK K;refine norm_ (a':=?_) ?_ ?_;rotate_left
         ·
          show Act.put _ (some 23) _=_
          simp only [Act.put,zi,zj,zk,zG,zH]
          rfl
         refine one_ (i:=9) (N:=some 24) (bm_ 10 13) rfl rfl (one_of HT_.out (by kernel_rfl)) (by decide) (fun K hK => ?_);have hcv15:=own_string (P:=Tryd.prog) Tryd.underlying51 Tryd.underlying5 Tryd.underlying9 (Kd.own_of_R HO476.out);refine value_ (w1:=?_) (v:=?_) (by rfl) rfl ?_ ?_;rotate_left 2
         ·
          go_simp
          constructor
          ·
           rfl
          rfl
         clear hcv15;refine hK.out _ _ trivial (fun hHeld => ?_);clear hK K;refine norm_ (a':=?_) ?_ ?_;rotate_left
         ·
          show Act.put _ (some 24) _=_
          simp only [Act.put,zi,zj,zk,zG,zH]
          rfl
         refine pure_ (i:=10) (N:=some 25) (v:=?_) (a':=?_) (bm_ 11 13) rfl rfl (any_of HT_.out (by kernel_rfl)) (fun _ _ _ h => h) (Or.inl ⟨by rfl,?_⟩) ?_ ?_;rotate_left
         ·
          intro w'
          go_simp
          with_reducible rfl
         rotate_left
         ·
          simp only [Act.put,zi,zj,zk,zG,zH]
          rfl
         refine pure_ (i:=11) (N:=some 26) (v:=?_) (a':=?_) (bm_ 12 13) rfl rfl (any_of HT_.out (by kernel_rfl)) (fun _ _ _ h => h) (Or.inl ⟨by rfl,?_⟩) ?_ ?_;rotate_left
         ·
          intro w'
          go_simp
          with_reducible rfl
         rotate_left
         ·
          simp only [Act.put,zi,zj,zk,zG,zH]
          rfl
         refine one_ (i:=12) (N:=none) (bm_ 13 13) rfl rfl (one_of HT_.out (by kernel_rfl)) (by decide) (fun K hK => ?_);have hs16 : w13.cell? ⟨gb473,0,none⟩=some (.string x474000_1):=(zz BK473.out 0).trans rfl;have hfs16:=zA BK473.out 0;have hs17 : w13.cell? ⟨gb473,1,none⟩=some (.string x474001_1):=(zz BK473.out 1).trans rfl;have hfs17:=zA BK473.out 1;have hs18 : w13.cell? ⟨gb473,2,none⟩=some (.bool x474002_1):=(zz BK473.out 2).trans rfl;have hfs18:=zA BK473.out 2;refine skip_ (w1:=?_) (by rfl) rfl ?_ ?_;rotate_left
         ·
          go_simp
          rfl
         refine hK.out _ _ trivial (fun hHeld => ?_);clear hK K;refine done_ (done_of HT_.out (by kernel_rfl)) ?_
         try go_wp2
         refine bodyPost_ret (results_cell_row rfl _ _ gb473 28 #[.string a0,.string ((a0.extract 0 (x3_1 : Int).toNat) ++ (strOfNums y474)),.bool false] (0,0) _ rfl (by (with_reducible repeat first|apply ze|apply zf|apply zg);refine zL (cs:=#[.string a0,.string ((a0.extract 0 (x3_1 : Int).toNat) ++ (strOfNums y474)),.bool x474002_1]) ?_ 2 _ rfl;(with_reducible repeat first|apply ze|apply zf|apply zg);refine zL (cs:=#[.string a0,.string x474001_1,.bool x474002_1]) ?_ 1 _ rfl;(with_reducible repeat first|apply ze|apply zf|apply zg);refine zL (cs:=#[.string x474000_1,.string x474001_1,.bool x474002_1]) ?_ 0 _ rfl;(with_reducible repeat first|apply ze|apply zf|apply zg);exact BK473.out) Tryd.underlying28 rfl (by kernel_rfl)) rfl ?_;exact ⟨by first|rfl|(simp [yt,yu] <;> rfl)|(simp [*,yt,yu] <;> rfl),by repeat (with_reducible first|exact HB.out|apply za|apply zb|apply zc|refine zd ?_ GE473.out)⟩
        rw [if_neg c11] at H;exact absurd H (by simp)
       rw [if_neg c9] at H;exact absurd H (by simp)
      rw [if_neg c7] at H;have c7b0 : decide ((bt a0 x3_1)<255)=false:=decide_eq_false c7;clear c7;have H':=zh H;clear H;have p6 : 0≤(x3_1 : Int):=zy (by first|(with_reducible assumption)|assumption);have q6 : x3_1<(a0.size : Int):=zy (by first|(with_reducible assumption)|assumption);have hx6:=bt_at a0 x3_1;replace p6:=eq_true p6;replace q6:=eq_true q6
      go_wp2
      go_roundg k1
      case measure => have:=HK1.out;omega
      case rel => exact ⟨(wrap64 (x3_1 - 1)),(x474000_1),(x474001_1),(x474002_1),(by first|rfl|(simp;done)|(simp [*];done)),H',⟨by have:=HK1.out;omega⟩,⟨by (with_reducible repeat first|apply ze|apply zf|apply zg);exact BK473.out⟩,⟨by repeat (with_reducible first|exact HB.out|apply za|apply zb|apply zc|refine zd ?_ GE473.out)⟩⟩
     rw [if_neg c5] at H;exact absurd H (by simp)
    rw [if_neg c4] at H;exact absurd H (by simp)
   rw [if_neg c3] at H;have c3b0 : decide (0≤x3_1)=false:=decide_eq_false c3;clear c3;simp only [Option.some.injEq,Prod.mk.injEq] at H;obtain ⟨rfl,rfl,rfl⟩:=H;obtain ⟨hcz19_0,hcz19_1,hcz19_2,hfz19_0,hfz19_1,hfz19_2⟩:=cB3 BK473.out
   go_wp2
   refine bodyPost_ret (results_cell_row rfl _ _ gb473 28 #[.string a0,.string (⟨#[]⟩ : ByteArray),.bool true] (0,0) _ rfl (by (with_reducible repeat first|apply ze|apply zf|apply zg);refine zL (cs:=#[.string a0,.string (⟨#[]⟩ : ByteArray),.bool x474002_1]) ?_ 2 _ rfl;(with_reducible repeat first|apply ze|apply zf|apply zg);refine zL (cs:=#[.string a0,.string x474001_1,.bool x474002_1]) ?_ 1 _ rfl;(with_reducible repeat first|apply ze|apply zf|apply zg);refine zL (cs:=#[.string x474000_1,.string x474001_1,.bool x474002_1]) ?_ 0 _ rfl;(with_reducible repeat first|apply ze|apply zf|apply zg);exact BK473.out) Tryd.underlying28 rfl (by kernel_rfl)) rfl ?_;exact ⟨by first|rfl|(simp [yt,yu] <;> rfl)|(simp [*,yt,yu] <;> rfl),by repeat (with_reducible first|exact HB.out|apply za|apply zb|apply zc|refine zd ?_ GE473.out)⟩

end Go.Proofs.YthjgfjlogilleabDoor.Q
end
section
namespace Go.Proofs.YthjgfjlogilleabDoor.Q
open Go.RowKit Go.Proofs.YthjgfjlogilleabDoorW.PrintWords Go.Proofs.YthjgfjlogilleabDoorW.PrintLast Go.Proofs.YthjgfjlogilleabDoorW.PrintMore
attribute [local go_sem] max2_int min2_int max_two min_two max_three min_three max_four min_four max2_str min2_str str_geq str_gtr str_leq   -- for this text's walks alone
set_option linter.unusedVariables false
set_option linter.unusedSimpArgs false

attribute [local go_sem] Instr.field asAgg
def F6.j0 : Nat→Bool→ByteArray→Int→Int→ByteArray→Int→Int→ByteArray→ByteArray→ByteArray→Bool→Option (ByteArray×ByteArray×Bool)
 | 0,_,_,_,_,_,_,_,_,_,_,_ => none
 | k + 1,x1,x5,x7,x478000,x478001,x478002,x478003,x478004,x484000,x484001,x484002 => if x7=1 then ((Fd.f k x5).bind fun bt484 => (some (bt484.1,bt484.2.1,bt484.2.2))) else (if x7=9 then ((Fu.f (([(wrap64 (x478003 + 1)) % 256] : List Int)) x1).bind fun t490 => ((Fd.f k t490).bind fun bt491 => (some (bt491.1,bt491.2.1,bt491.2.2)))) else (if x7=5 then ((Fd.f k x5).bind fun bt494 => (some (bt494.2.1,x484001,x484002))) else (if x7=6 then (some (x5,x484001,x484002)) else (if x7=3 then (some (x484000,x5,x484002)) else (if x7=4 then ((Fd.f k x5).bind fun bt497 => (some (x484000,bt497.2.1,x484002))) else (some ((⟨#[]⟩ : ByteArray),(⟨#[]⟩ : ByteArray),true)))))))
def F6.f (k : Nat) (a0_0 : Int) (a0_1 : ByteArray) (a0_2 : Int) (a0_3 : Int) (a0_4 : ByteArray) (a1 : Bool) : Option (ByteArray×ByteArray×Bool):=(F0b.f k a0_2 a0_3 a0_4 a1).bind fun t479 => (if 0≤1 then (if 1≤(t479.size : Int) then ((Fd.f k (t479.extract 0 1)).bind fun bt480 => (if a1=true then (if a0_0=3 then (F6.j0 k a1 t479 5 a0_0 a0_1 a0_2 a0_3 a0_4 bt480.1 bt480.2.1 bt480.2.2) else (if a0_0=4 then (F6.j0 k a1 t479 6 a0_0 a0_1 a0_2 a0_3 a0_4 bt480.1 bt480.2.1 bt480.2.2) else (if a0_0=5 then (F6.j0 k a1 t479 3 a0_0 a0_1 a0_2 a0_3 a0_4 bt480.1 bt480.2.1 bt480.2.2) else (if a0_0=6 then (F6.j0 k a1 t479 4 a0_0 a0_1 a0_2 a0_3 a0_4 bt480.1 bt480.2.1 bt480.2.2) else (F6.j0 k a1 t479 a0_0 a0_0 a0_1 a0_2 a0_3 a0_4 bt480.1 bt480.2.1 bt480.2.2))))) else (F6.j0 k a1 t479 a0_0 a0_0 a0_1 a0_2 a0_3 a0_4 bt480.1 bt480.2.1 bt480.2.2))) else (none)) else (none))
theorem F6.mono_l : ∀ k,(∀ y0 y1 y2 y3 y4 y5 y6 y7 y8 y9 y10,LeO (F6.j0 k y0 y1 y2 y3 y4 y5 y6 y7 y8 y9 y10) (F6.j0 (k + 1) y0 y1 y2 y3 y4 y5 y6 y7 y8 y9 y10))
 | 0 => fun _ _ _ _ _ _ _ _ _ _ _ r h => by simp [F6.j0] at h
 | k + 1 => by
  have ih0:=F6.mono_l k;intro y0 y1 y2 y3 y4 y5 y6 y7 y8 y9 y10;unfold F6.j0
  repeat' first|(with_reducible first|exact ih0 _ _ _ _ _ _ _ _ _ _ _|exact F0b.mono _ _ _ _ _|exact Fd.mono _ _|exact zQ _|exact zN _|refine zP ?_ ?_|refine zO ?_ (fun _ => ?_))|refine zP ?_ ?_|refine zO ?_ (fun _ => ?_)
theorem F6.mono : ∀ a0 a1 a2 a3 a4 a5 k,LeO (F6.f k a0 a1 a2 a3 a4 a5) (F6.f (k + 1) a0 a1 a2 a3 a4 a5):=by
 intro a0 a1 a2 a3 a4 a5 k;have ih0:=F6.mono_l k;unfold F6.f
 repeat' first|(with_reducible first|exact ih0 _ _ _ _ _ _ _ _ _ _ _|exact F0b.mono _ _ _ _ _|exact Fd.mono _ _|exact zQ _|exact zN _|refine zP ?_ ?_|refine zO ?_ (fun _ => ?_))|refine zP ?_ ?_|refine zO ?_ (fun _ => ?_)
def F6.T2 : Bool×List (List Nat×List Nat):=(true,[([],[]),([0],[0]),([1],[1]),([],[]),([3],[3]),([],[]),([5,2,2,0,1,2,5],[2,5]),([4,6,0,1,2,3,4,5,6],[4])])
def F6.B2 : List Nat:=[0,1,3,0,8,0,39,127]
theorem F6.tab2 : rtab .any (opsOf Tryd.f14 2)=F6.T2:=by kernel_rfl
theorem F6.bits2 : waitsOk F6.T2.2 F6.B2=true:=by kernel_rfl
set_option maxHeartbeats 8000000 in
set_option maxRecDepth 100000 in
theorem F6.calls (k : Nat) (a0_0 : Int) (a0_1 : ByteArray) (a0_2 : Int) (a0_3 : Int) (a0_4 : ByteArray) (a1 : Bool) (r1 : ByteArray) (r2 : ByteArray) (r3 : Bool) (w : World) (h : F6.f k a0_0 a0_1 a0_2 a0_3 a0_4 a1=some (r1,r2,r3)) :
  Calls Tryd.prog 14 #[.agg #[.int .i64 a0_0,.string a0_1,.int .i64 a0_2,.int .i64 a0_3,.string a0_4],.bool a1] w fun e w' => e = .returned (.agg #[.string r1,.string r2,.bool r3])∧Below w.heap.size w w':=by
 have hu33:=Tryd.underlying33;have hu28:=Tryd.underlying28;have hu31:=Tryd.underlying31;have HB:=zh (Below.refl w.heap.size w);have H : ((F0b.f k a0_2 a0_3 a0_4 a1).bind fun t479 => (if 0≤1 then (if 1≤(t479.size : Int) then ((Fd.f k (t479.extract 0 1)).bind fun bt480 => (if a1=true then (if a0_0=3 then (F6.j0 k a1 t479 5 a0_0 a0_1 a0_2 a0_3 a0_4 bt480.1 bt480.2.1 bt480.2.2) else (if a0_0=4 then (F6.j0 k a1 t479 6 a0_0 a0_1 a0_2 a0_3 a0_4 bt480.1 bt480.2.1 bt480.2.2) else (if a0_0=5 then (F6.j0 k a1 t479 3 a0_0 a0_1 a0_2 a0_3 a0_4 bt480.1 bt480.2.1 bt480.2.2) else (if a0_0=6 then (F6.j0 k a1 t479 4 a0_0 a0_1 a0_2 a0_3 a0_4 bt480.1 bt480.2.1 bt480.2.2) else (F6.j0 k a1 t479 a0_0 a0_0 a0_1 a0_2 a0_3 a0_4 bt480.1 bt480.2.1 bt480.2.2))))) else (F6.j0 k a1 t479 a0_0 a0_0 a0_1 a0_2 a0_3 a0_4 bt480.1 bt480.2.1 bt480.2.2))) else (none)) else (none)))=some (r1,r2,r3):=h;clear h;replace H:=zT.mp H;obtain ⟨t479,A30,H⟩:=H;replace H : (if 0≤1 then (if 1≤(t479.size : Int) then ((Fd.f k (t479.extract 0 1)).bind fun bt480 => (if a1=true then (if a0_0=3 then (F6.j0 k a1 t479 5 a0_0 a0_1 a0_2 a0_3 a0_4 bt480.1 bt480.2.1 bt480.2.2) else (if a0_0=4 then (F6.j0 k a1 t479 6 a0_0 a0_1 a0_2 a0_3 a0_4 bt480.1 bt480.2.1 bt480.2.2) else (if a0_0=5 then (F6.j0 k a1 t479 3 a0_0 a0_1 a0_2 a0_3 a0_4 bt480.1 bt480.2.1 bt480.2.2) else (if a0_0=6 then (F6.j0 k a1 t479 4 a0_0 a0_1 a0_2 a0_3 a0_4 bt480.1 bt480.2.1 bt480.2.2) else (F6.j0 k a1 t479 a0_0 a0_0 a0_1 a0_2 a0_3 a0_4 bt480.1 bt480.2.1 bt480.2.2))))) else (F6.j0 k a1 t479 a0_0 a0_0 a0_1 a0_2 a0_3 a0_4 bt480.1 bt480.2.1 bt480.2.2))) else (none)) else (none))=some (r1,r2,r3):=H;have A3:=zh A30;clear A30
 by_cases c4 : 0≤1
 ·
  rw [if_pos c4] at H
  have c4b0:=eq_true c4;have c4b1 : decide (0≤1)=true:=decide_eq_true c4;clear c4
  by_cases c5 : 1≤(t479.size : Int)
  ·
   rw [if_pos c5] at H
   have c5b0:=eq_true c5;have c5b1 : decide (1≤(t479.size : Int))=true:=decide_eq_true c5;clear c5;replace H:=zT.mp H;obtain ⟨⟨t480,t481,t482⟩,A60,H⟩:=H;replace H : (if a1=true then (if a0_0=3 then (F6.j0 k a1 t479 5 a0_0 a0_1 a0_2 a0_3 a0_4 t480 t481 t482) else (if a0_0=4 then (F6.j0 k a1 t479 6 a0_0 a0_1 a0_2 a0_3 a0_4 t480 t481 t482) else (if a0_0=5 then (F6.j0 k a1 t479 3 a0_0 a0_1 a0_2 a0_3 a0_4 t480 t481 t482) else (if a0_0=6 then (F6.j0 k a1 t479 4 a0_0 a0_1 a0_2 a0_3 a0_4 t480 t481 t482) else (F6.j0 k a1 t479 a0_0 a0_0 a0_1 a0_2 a0_3 a0_4 t480 t481 t482))))) else (F6.j0 k a1 t479 a0_0 a0_0 a0_1 a0_2 a0_3 a0_4 t480 t481 t482))=some (r1,r2,r3):=H;have A6:=zh A60;clear A60;have HC7:=zh H;clear H
   go_enter Tryd.func14,Tryd.ntmps14
   try go_wp2_with (first|((with_reducible refine zK (N:=2) rfl ?_);refine zI ?hg (N:=2) ?hd (cs:=#[.int .i64 a0_0,.string a0_1,.int .i64 a0_2,.int .i64 a0_3,.string a0_4]) (t:=33) ?hr ?_;(case hd|hg => rfl);(case hr => go_simp <;> rfl);intro gb477 hg w8 hbox hb;have BK477:=zh (hbox);have hH_:=cH (by repeat (with_reducible first|exact HB.out|apply za|apply zb|apply zc)) hb hg;have GW477:=zh hH_.1;have GE477:=GW477;replace HB:=zh hH_.2;clear hb hbox hg hH_)|((with_reducible refine zK (N:=4) rfl ?_);refine zI ?hg (N:=4) ?hd (cs:=#[.string (⟨#[]⟩ : ByteArray),.string (⟨#[]⟩ : ByteArray),.bool false]) (t:=28) ?hr ?_;(case hd|hg => rfl);(case hr => go_simp <;> rfl);intro gb478 hg w9 hbox hb;have BK478:=zh (hbox);have hH_:=cH (by repeat (with_reducible first|exact HB.out|apply za|apply zb|apply zc|refine zd ?_ GE477.out)) hb hg;have GW478:=zh hH_.1;have GE478:=GW478;replace HB:=zh hH_.2;have NB477_478:=zh ((by rw [hg];exact yc (yi (g:=gb477) (o:=.cells #[.int .i64 a0_0,.string a0_1,.int .i64 a0_2,.int .i64 a0_3,.string a0_4] 33 (0,0)) (by (with_reducible repeat first|apply ze|apply zf|apply zg);exact BK477.out)) : gb477≠gb478));have NB478_477:=zh NB477_478.out.symm;replace BK477:=zh (cD BK477.out (by (with_reducible repeat first|apply ze|apply zf|apply zg);exact BK477.out) hb);clear hb hbox hg hH_;have hnb10:=NB477_478.out;have hnc10:=NB478_477.out;obtain ⟨hcz11_0,hcz11_1,hcz11_2,hcz11_3,hcz11_4,hfz11_0,hfz11_1,hfz11_2,hfz11_3,hfz11_4⟩:=cB5 BK477.out)|((with_reducible refine zJ (f:=26) rfl ?_);refine yj (some 11) rfl rfl Tryd.func26 (by kernel_rfl) rfl #[.agg #[.int .i64 a0_2,.int .i64 a0_3,.string a0_4],.bool a1] rfl (by (try simp only [zt,zu,zv]);first|done|rfl|(simp only [zw,zx];rfl)|(simp only [yr,ys,zV,zW];rfl)) ?_;(with_reducible refine (F0b.calls k  a0_2 a0_3 a0_4 a1 t479 _ A3.out).mono ?_);rintro e w12 ⟨rfl,hb⟩;refine ⟨_,rfl,?_⟩;replace BK477:=zh (cD BK477.out (by (with_reducible repeat first|apply ze|apply zf|apply zg);exact BK477.out) hb);replace BK478:=zh (cD BK478.out (by (with_reducible repeat first|apply ze|apply zf|apply zg);exact BK478.out) hb);replace HB:=zh (zC (by repeat (with_reducible first|exact HB.out|apply za|apply zb|apply zc|refine zd ?_ GE477.out|refine zd ?_ GE478.out)) hb);(try clear hb);(try clear hb2);(try clear hk);(try clear hi)))
   replace BK477:=zh (zf BK477.out);replace BK478:=zh (zf BK478.out);replace HB:=zh (zc HB.out);refine start_ (n:=8) (S:=fun w' => w'.cell? ⟨gb477,0,none⟩=some (.int .i64 a0_0)∧w'.cell? ⟨gb477,1,none⟩=some (.string a0_1)∧w'.cell? ⟨gb477,2,none⟩=some (.int .i64 a0_2)∧w'.cell? ⟨gb477,3,none⟩=some (.int .i64 a0_3)∧w'.cell? ⟨gb477,4,none⟩=some (.string a0_4)) (ds:=[]) (bm_ 0 8) (by kernel_rfl) rfl rfl ⟨(zz BK477.out 0).trans rfl,(zz BK477.out 1).trans rfl,(zz BK477.out 2).trans rfl,(zz BK477.out 3).trans rfl,(zz BK477.out 4).trans rfl⟩ (fun hHeld => ?_);refine with_tabW F6.tab2 F6.bits2 (fun HT_ HW_ => ?_);generalize w12.drew=w13 at BK477 BK478 HB hHeld ⊢;refine pure_ (i:=0) (N:=some 12) (v:=?_) (a':=?_) (bm_ 1 8) rfl rfl (any_of HT_.out (by kernel_rfl)) (fun _ _ _ h => h) (Or.inl ⟨by rfl,?_⟩) ?_ ?_;rotate_left
   ·
    intro w'
    go_simp
    with_reducible rfl
   rotate_left
   ·
    simp only [Act.put,zi,zj,zk,zG,zH]
    rfl
   refine pure_ (i:=1) (N:=some 13) (v:=?_) (a':=?_) (bm_ 2 8) rfl rfl (any_of HT_.out (by kernel_rfl)) (fun _ _ _ h => h) (Or.inl ⟨by rfl,?_⟩) ?_ ?_;rotate_left
   ·
    intro w'
    go_simp
    with_reducible rfl
   rotate_left
   ·
    simp only [Act.put,zi,zj,zk,zG,zH]
    rfl
   refine pure_ (i:=3) (N:=some 15) (v:=?_) (a':=?_) #[true,true,false,true,false,false,false,false] rfl rfl (any_of HT_.out (by kernel_rfl)) (fun _ _ _ h => h) (Or.inl ⟨by rfl,?_⟩) ?_ ?_;rotate_left
   ·
    intro w'
    go_simp
    with_reducible rfl
   rotate_left
   ·
    simp only [Act.put,zi,zj,zk,zG,zH]
    rfl
   refine take_ (i:=4) (N:=some 16) (v:=?_) (a':=?_) #[true,true,false,true,true,false,false,false] rfl rfl (yo HT_.out HW_.out (by kernel_rfl)) (fun _ _ _ h => h) (Or.inl ⟨by rfl,?_⟩) hHeld ?_ ?_;rotate_left
   ·
    rintro w' ⟨s0,s1,s2,s3,s4⟩
    go_simp
    with_reducible rfl
   rotate_left
   ·
    simp only [Act.put,zi,zj,zk,zG,zH]
    rfl
   refine join_ (σ:=Nat) 2 (bm_ 6 8) (fun s_ => [(14,.agg #[.string t480,.string t481,.bool t482]),(6,.pointer (some ⟨s_,0,none⟩))]) (fun s_ w' => (w'.cell? ⟨gb477,0,none⟩=some (.int .i64 a0_0)∧w'.cell? ⟨gb477,1,none⟩=some (.string a0_1)∧w'.cell? ⟨gb477,2,none⟩=some (.int .i64 a0_2)∧w'.cell? ⟨gb477,3,none⟩=some (.int .i64 a0_3)∧w'.cell? ⟨gb477,4,none⟩=some (.string a0_4))∧(w'.heap[gb477]? = some (.cells #[.int .i64 a0_0,.string a0_1,.int .i64 a0_2,.int .i64 a0_3,.string a0_4] 33 (0,0)))∧(w'.heap[gb478]? = some (.cells #[.string (⟨#[]⟩ : ByteArray),.string (⟨#[]⟩ : ByteArray),.bool false] 28 (0,0)))∧(w'.heap[s_]? = some (.cells #[.string (⟨#[]⟩ : ByteArray),.string (⟨#[]⟩ : ByteArray),.bool false] 28 (0,0)))∧(w.heap.size≤s_)∧(w.heap.size≤s_)∧(gb477≠s_)∧(s_≠gb477)∧(gb478≠s_)∧(s_≠gb478)∧(Below w.heap.size w w')) ?_ ?_;rotate_left
   ·
    intro hCont
    refine two_ (i:=2) (j:=5) (Ni:=some 14) (Nj:=some 6) (bm_ 5 8) #[true,true,false,true,true,true,false,false] rfl rfl rfl rfl (two_of HT_.out (by kernel_rfl)) (by decide) (by decide) (fun K hK => ?_) (fun K hK => ?_)
    ·
     skip
     refine goes_ Tryd.func27 (by kernel_rfl) rfl #[.string (t479.extract 0 1)] (by rfl) rfl rfl (by (try simp only [zt,zu,zv]);first|done|rfl|(simp only [zw,zx];rfl)|(simp only [yr,ys,zV,zW];rfl)) ?_
     with_reducible refine (Fd.calls k  (t479.extract 0 1) t480 t481 t482 _ A6.out).mono ?_
     rintro e w14 ⟨rfl,hb⟩;refine ⟨_,rfl,?_⟩;replace BK477:=zh (cD BK477.out (by (with_reducible repeat first|apply ze|apply zf|apply zg);exact BK477.out) hb);replace BK478:=zh (cD BK478.out (by (with_reducible repeat first|apply ze|apply zf|apply zg);exact BK478.out) hb);replace HB:=zh (zC (by repeat (with_reducible first|exact HB.out|apply za|apply zb|apply zc|refine zd ?_ GE477.out|refine zd ?_ GE478.out)) hb);(try clear hb);(try clear hb2);(try clear hk);(try clear hi);refine hK.out _ _ ⟨(zz BK477.out 0).trans rfl,(zz BK477.out 1).trans rfl,(zz BK477.out 2).trans rfl,(zz BK477.out 3).trans rfl,(zz BK477.out 4).trans rfl⟩ (fun hHeld => ?_);clear hK K;refine norm_ (a':=?_) ?_ ?_;rotate_left
     ·
      show Act.put _ (some 14) _=_
      simp only [Act.put,zi,zj,zk,zG,zH]
      rfl
     refine one_ (i:=5) (N:=some 6) (bm_ 6 8) rfl rfl (one_of HT_.out (by kernel_rfl)) (by decide) (fun K hK => ?_);refine box_step ?hg (N:=6) ?hd (cs:=#[.string (⟨#[]⟩ : ByteArray),.string (⟨#[]⟩ : ByteArray),.bool false]) (t:=28) ?hr ?_;(case hd|hg => rfl);(case hr => go_simp <;> rfl);intro gb483 hg w15 hbox hb;have BK483:=zh (hbox);have hH_:=cH (by repeat (with_reducible first|exact HB.out|apply za|apply zb|apply zc|refine zd ?_ GE477.out|refine zd ?_ GE478.out)) hb hg;have GW483:=zh hH_.1;have GE483:=GW483;replace HB:=zh hH_.2;have NB477_483:=zh ((by rw [hg];exact yc (yi (g:=gb477) (o:=.cells #[.int .i64 a0_0,.string a0_1,.int .i64 a0_2,.int .i64 a0_3,.string a0_4] 33 (0,0)) (by (with_reducible repeat first|apply ze|apply zf|apply zg);exact BK477.out)) : gb477≠gb483));have NB483_477:=zh NB477_483.out.symm;replace BK477:=zh (cD BK477.out (by (with_reducible repeat first|apply ze|apply zf|apply zg);exact BK477.out) hb);have NB478_483:=zh ((by rw [hg];exact yc (yi (g:=gb478) (o:=.cells #[.string (⟨#[]⟩ : ByteArray),.string (⟨#[]⟩ : ByteArray),.bool false] 28 (0,0)) (by (with_reducible repeat first|apply ze|apply zf|apply zg);exact BK478.out)) : gb478≠gb483));have NB483_478:=zh NB478_483.out.symm;replace BK478:=zh (cD BK478.out (by (with_reducible repeat first|apply ze|apply zf|apply zg);exact BK478.out) hb);clear hb hbox hg hH_;refine hK.out _ _ ⟨(zz BK477.out 0).trans rfl,(zz BK477.out 1).trans rfl,(zz BK477.out 2).trans rfl,(zz BK477.out 3).trans rfl,(zz BK477.out 4).trans rfl⟩ (fun hHeld => ?_);clear hK K;refine norm_ (a':=?_) ?_ ?_;rotate_left
     ·
      show Act.put _ (some 6) _=_
      simp only [Act.put,zi,zj,zk,zG,zH]
      rfl
     exact norm_ (by simp only [putAll,Act.put,zi,zj,zk]) (hCont (gb483) _ ⟨hHeld,(by (with_reducible repeat first|apply ze|apply zf|apply zg);exact BK477.out),(by (with_reducible repeat first|apply ze|apply zf|apply zg);exact BK478.out),(by (with_reducible repeat first|apply ze|apply zf|apply zg);exact BK483.out),GW483.out,GE483.out,NB477_483.out,NB483_477.out,NB478_483.out,NB483_478.out,(by repeat (with_reducible first|exact HB.out|apply za|apply zb|apply zc|refine zd ?_ GE477.out|refine zd ?_ GE478.out|refine zd ?_ GE483.out))⟩)
    skip
    refine box_step ?hg (N:=6) ?hd (cs:=#[.string (⟨#[]⟩ : ByteArray),.string (⟨#[]⟩ : ByteArray),.bool false]) (t:=28) ?hr ?_;(case hd|hg => rfl);(case hr => go_simp <;> rfl);intro gb483 hg w14 hbox hb;have BK483:=zh (hbox);have hH_:=cH (by repeat (with_reducible first|exact HB.out|apply za|apply zb|apply zc|refine zd ?_ GE477.out|refine zd ?_ GE478.out)) hb hg;have GW483:=zh hH_.1;have GE483:=GW483;replace HB:=zh hH_.2;have NB477_483:=zh ((by rw [hg];exact yc (yi (g:=gb477) (o:=.cells #[.int .i64 a0_0,.string a0_1,.int .i64 a0_2,.int .i64 a0_3,.string a0_4] 33 (0,0)) (by (with_reducible repeat first|apply ze|apply zf|apply zg);exact BK477.out)) : gb477≠gb483));have NB483_477:=zh NB477_483.out.symm;replace BK477:=zh (cD BK477.out (by (with_reducible repeat first|apply ze|apply zf|apply zg);exact BK477.out) hb);have NB478_483:=zh ((by rw [hg];exact yc (yi (g:=gb478) (o:=.cells #[.string (⟨#[]⟩ : ByteArray),.string (⟨#[]⟩ : ByteArray),.bool false] 28 (0,0)) (by (with_reducible repeat first|apply ze|apply zf|apply zg);exact BK478.out)) : gb478≠gb483));have NB483_478:=zh NB478_483.out.symm;replace BK478:=zh (cD BK478.out (by (with_reducible repeat first|apply ze|apply zf|apply zg);exact BK478.out) hb);clear hb hbox hg hH_;refine hK.out _ _ ⟨(zz BK477.out 0).trans rfl,(zz BK477.out 1).trans rfl,(zz BK477.out 2).trans rfl,(zz BK477.out 3).trans rfl,(zz BK477.out 4).trans rfl⟩ (fun hHeld => ?_);clear hK K;refine norm_ (a':=?_) ?_ ?_;rotate_left
    ·
     show Act.put _ (some 6) _=_
     simp only [Act.put,zi,zj,zk,zG,zH]
     rfl
    refine one_ (i:=2) (N:=some 14) (bm_ 6 8) rfl rfl (one_of HT_.out (by kernel_rfl)) (by decide) (fun K hK => ?_);refine goes_ Tryd.func27 (by kernel_rfl) rfl #[.string (t479.extract 0 1)] (by rfl) rfl rfl (by (try simp only [zt,zu,zv]);first|done|rfl|(simp only [zw,zx];rfl)|(simp only [yr,ys,zV,zW];rfl)) ?_
    with_reducible refine (Fd.calls k  (t479.extract 0 1) t480 t481 t482 _ A6.out).mono ?_
    rintro e w15 ⟨rfl,hb⟩;refine ⟨_,rfl,?_⟩;replace BK477:=zh (cD BK477.out (by (with_reducible repeat first|apply ze|apply zf|apply zg);exact BK477.out) hb);replace BK478:=zh (cD BK478.out (by (with_reducible repeat first|apply ze|apply zf|apply zg);exact BK478.out) hb);replace BK483:=zh (cD BK483.out (by (with_reducible repeat first|apply ze|apply zf|apply zg);exact BK483.out) hb);replace HB:=zh (zC (by repeat (with_reducible first|exact HB.out|apply za|apply zb|apply zc|refine zd ?_ GE477.out|refine zd ?_ GE478.out|refine zd ?_ GE483.out)) hb);(try clear hb);(try clear hb2);(try clear hk);(try clear hi);refine hK.out _ _ ⟨(zz BK477.out 0).trans rfl,(zz BK477.out 1).trans rfl,(zz BK477.out 2).trans rfl,(zz BK477.out 3).trans rfl,(zz BK477.out 4).trans rfl⟩ (fun hHeld => ?_);clear hK K;refine norm_ (a':=?_) ?_ ?_;rotate_left
    ·
     show Act.put _ (some 14) _=_
     simp only [Act.put,zi,zj,zk,zG,zH]
     rfl
    exact norm_ (by simp only [putAll,Act.put,zi,zj,zk]) (hCont (gb483) _ ⟨hHeld,(by (with_reducible repeat first|apply ze|apply zf|apply zg);exact BK477.out),(by (with_reducible repeat first|apply ze|apply zf|apply zg);exact BK478.out),(by (with_reducible repeat first|apply ze|apply zf|apply zg);exact BK483.out),GW483.out,GE483.out,NB477_483.out,NB483_477.out,NB478_483.out,NB483_478.out,(by repeat (with_reducible first|exact HB.out|apply za|apply zb|apply zc|refine zd ?_ GE477.out|refine zd ?_ GE478.out|refine zd ?_ GE483.out))⟩)
   rintro gb483 w16 ⟨hS_,h0_,h1_,h2_,h3_,h4_,h5_,h6_,h7_,h8_,h9_⟩;replace BK477 : Aside0 (w16.heap[gb477]? = some (.cells #[.int .i64 a0_0,.string a0_1,.int .i64 a0_2,.int .i64 a0_3,.string a0_4] 33 (0,0))):=⟨h0_⟩;replace BK478 : Aside0 (w16.heap[gb478]? = some (.cells #[.string (⟨#[]⟩ : ByteArray),.string (⟨#[]⟩ : ByteArray),.bool false] 28 (0,0))):=⟨h1_⟩;have BK483 : Aside0 (w16.heap[gb483]? = some (.cells #[.string (⟨#[]⟩ : ByteArray),.string (⟨#[]⟩ : ByteArray),.bool false] 28 (0,0))):=⟨h2_⟩;have GW483 : Aside0 (w.heap.size≤gb483):=⟨h3_⟩;have GE483 : Aside0 (w.heap.size≤gb483):=⟨h4_⟩;have NB477_483 : Aside0 (gb477≠gb483):=⟨h5_⟩;have NB483_477 : Aside0 (gb483≠gb477):=⟨h6_⟩;have NB478_483 : Aside0 (gb478≠gb483):=⟨h7_⟩;have NB483_478 : Aside0 (gb483≠gb478):=⟨h8_⟩;replace HB : Aside0 (Below w.heap.size w w16):=⟨h9_⟩;clear h0_ h1_ h2_ h3_ h4_ h5_ h6_ h7_ h8_ h9_;have hHeld : w16.cell? ⟨gb477,0,none⟩=some (.int .i64 a0_0)∧w16.cell? ⟨gb477,1,none⟩=some (.string a0_1)∧w16.cell? ⟨gb477,2,none⟩=some (.int .i64 a0_2)∧w16.cell? ⟨gb477,3,none⟩=some (.int .i64 a0_3)∧w16.cell? ⟨gb477,4,none⟩=some (.string a0_4):=hS_;refine norm_ (a':=?_) ?_ ?_;rotate_left
   ·
    simp only [putAll,Act.put,zi,zj,zk]
    rfl
   refine one_ (i:=6) (N:=none) (bm_ 7 8) rfl rfl (one_of HT_.out (by kernel_rfl)) (by decide) (fun K hK => ?_);have hs17 : w16.cell? ⟨gb483,0,none⟩=some (.string (⟨#[]⟩ : ByteArray)):=(zz BK483.out 0).trans rfl;have hfs17:=zA BK483.out 0;have hns17_0:=NB477_483.out;have hns17_1:=NB478_483.out;have hms17_0:=NB483_477.out;have hms17_1:=NB483_478.out;have hs18 : w16.cell? ⟨gb483,1,none⟩=some (.string (⟨#[]⟩ : ByteArray)):=(zz BK483.out 1).trans rfl;have hfs18:=zA BK483.out 1;have hns18_0:=NB477_483.out;have hns18_1:=NB478_483.out;have hms18_0:=NB483_477.out;have hms18_1:=NB483_478.out;have hs19 : w16.cell? ⟨gb483,2,none⟩=some (.bool false):=(zz BK483.out 2).trans rfl;have hfs19:=zA BK483.out 2;have hns19_0:=NB477_483.out;have hns19_1:=NB478_483.out;have hms19_0:=NB483_477.out;have hms19_1:=NB483_478.out;refine skip_ (w1:=?_) (by rfl) rfl ?_ ?_;rotate_left
   ·
    go_simp
    rfl
   refine hK.out _ _ ⟨((zR (p:=⟨gb483,_,none⟩) NB477_483.out _).trans (((zR (p:=⟨gb483,_,none⟩) NB477_483.out _).trans (((zR (p:=⟨gb483,_,none⟩) NB477_483.out _).trans (hHeld.1)))))),((zR (p:=⟨gb483,_,none⟩) NB477_483.out _).trans (((zR (p:=⟨gb483,_,none⟩) NB477_483.out _).trans (((zR (p:=⟨gb483,_,none⟩) NB477_483.out _).trans (hHeld.2.1)))))),((zR (p:=⟨gb483,_,none⟩) NB477_483.out _).trans (((zR (p:=⟨gb483,_,none⟩) NB477_483.out _).trans (((zR (p:=⟨gb483,_,none⟩) NB477_483.out _).trans (hHeld.2.2.1)))))),((zR (p:=⟨gb483,_,none⟩) NB477_483.out _).trans (((zR (p:=⟨gb483,_,none⟩) NB477_483.out _).trans (((zR (p:=⟨gb483,_,none⟩) NB477_483.out _).trans (hHeld.2.2.2.1)))))),((zR (p:=⟨gb483,_,none⟩) NB477_483.out _).trans (((zR (p:=⟨gb483,_,none⟩) NB477_483.out _).trans (((zR (p:=⟨gb483,_,none⟩) NB477_483.out _).trans (hHeld.2.2.2.2))))))⟩ (fun hHeld => ?_);clear hK K;refine pure_ (i:=7) (N:=some 7) (v:=?_) (a':=?_) (bm_ 8 8) rfl rfl (any_of HT_.out (by kernel_rfl)) (fun _ _ _ h => h) (Or.inl ⟨by rfl,?_⟩) ?_ ?_;rotate_left
   ·
    intro w'
    go_simp
    with_reducible rfl
   rotate_left
   ·
    simp only [Act.put,zi,zj,zk,zG,zH]
    rfl
   refine done_ (done_of HT_.out (by kernel_rfl)) ?_
   go_upto_if 17 with (fail)
   go_cut [7] (fun v7 wc => ∃ (kq : Nat) (x7_6 : Int),v7 = .int .i64 x7_6∧Aside0 (F6.j0 kq a1 t479 x7_6 a0_0 a0_1 a0_2 a0_3 a0_4 t480 t481 t482=some (r1,r2,r3))∧Aside0 (kq≤k)∧Aside0 (wc.heap[gb477]? = some (.cells #[.int .i64 a0_0,.string a0_1,.int .i64 a0_2,.int .i64 a0_3,.string a0_4] 33 (0,0)))∧Aside0 (wc.heap[gb478]? = some (.cells #[.string (⟨#[]⟩ : ByteArray),.string (⟨#[]⟩ : ByteArray),.bool false] 28 (0,0)))∧Aside0 (wc.heap[gb483]? = some (.cells #[.string t480,.string t481,.bool t482] 28 (0,0)))∧Aside0 (Below w.heap.size w wc))
   case first =>
    have H:=HC7.out;clear HC7
    by_cases c20 : a1=true
    ·
     subst c20
     have H1 : (if a0_0=3 then (F6.j0 k true t479 5 a0_0 a0_1 a0_2 a0_3 a0_4 t480 t481 t482) else (if a0_0=4 then (F6.j0 k true t479 6 a0_0 a0_1 a0_2 a0_3 a0_4 t480 t481 t482) else (if a0_0=5 then (F6.j0 k true t479 3 a0_0 a0_1 a0_2 a0_3 a0_4 t480 t481 t482) else (if a0_0=6 then (F6.j0 k true t479 4 a0_0 a0_1 a0_2 a0_3 a0_4 t480 t481 t482) else (F6.j0 k true t479 a0_0 a0_0 a0_1 a0_2 a0_3 a0_4 t480 t481 t482)))))=some (r1,r2,r3):=by rw [if_pos rfl] at H;exact H
     clear H;have H:=H1;clear H1
     by_cases c21 : a0_0=3
     ·
      rw [if_pos c21] at H
      have c21b0 : (a0_0 == 3)=true:=ya.mpr c21;have c21b1 : (a0_0 != 3)=false:=zX.mpr c21;clear c21;(first|rw [c21b0]|(simp only [zG,zH];rw [c21b0])|skip);have H':=zh H;clear H;have hnb22:=NB477_478.out;have hnc22:=NB478_477.out;have hnb23:=NB477_483.out;have hnc23:=NB483_477.out;obtain ⟨hcz24_0,hcz24_1,hcz24_2,hcz24_3,hcz24_4,hfz24_0,hfz24_1,hfz24_2,hfz24_3,hfz24_4⟩:=cB5 BK477.out
      go_wp2
      go_meet
      case rel => exact ⟨_,(5),(by first|rfl|(simp;done)|(simp [*];done)),H',⟨by first|omega|exact ye _⟩,⟨by (with_reducible repeat first|apply ze|apply zf|apply zg);refine cS3 ?_ NB477_483.out;(with_reducible repeat first|apply ze|apply zf|apply zg);exact BK477.out⟩,⟨by (with_reducible repeat first|apply ze|apply zf|apply zg);refine cS3 ?_ NB478_483.out;(with_reducible repeat first|apply ze|apply zf|apply zg);exact BK478.out⟩,⟨by (with_reducible repeat first|apply ze|apply zf|apply zg);refine zL (cs:=#[.string t480,.string t481,.bool false]) ?_ 2 _ rfl;(with_reducible repeat first|apply ze|apply zf|apply zg);refine zL (cs:=#[.string t480,.string (⟨#[]⟩ : ByteArray),.bool false]) ?_ 1 _ rfl;(with_reducible repeat first|apply ze|apply zf|apply zg);refine zL (cs:=#[.string (⟨#[]⟩ : ByteArray),.string (⟨#[]⟩ : ByteArray),.bool false]) ?_ 0 _ rfl;(with_reducible repeat first|apply ze|apply zf|apply zg);exact BK483.out⟩,⟨by repeat (with_reducible first|exact HB.out|apply za|apply zb|apply zc|refine zd ?_ GE477.out|refine zd ?_ GE478.out|refine zd ?_ GE483.out)⟩⟩
     rw [if_neg c21] at H;have c21b0 : (a0_0 == 3)=false:=zY.mpr c21;have c21b1 : (a0_0 != 3)=true:=zZ.mpr c21;(first|rw [c21b0]|(simp only [zG,zH];rw [c21b0])|skip)
     by_cases c25 : a0_0=4
     ·
      rw [if_pos c25] at H
      have c25b0 : (a0_0 == 4)=true:=ya.mpr c25;have c25b1 : (a0_0 != 4)=false:=zX.mpr c25;clear c25;have H':=zh H;clear H;have hnb26:=NB477_478.out;have hnc26:=NB478_477.out;have hnb27:=NB477_483.out;have hnc27:=NB483_477.out;obtain ⟨hcz28_0,hcz28_1,hcz28_2,hcz28_3,hcz28_4,hfz28_0,hfz28_1,hfz28_2,hfz28_3,hfz28_4⟩:=cB5 BK477.out
      go_wp2
      go_meet
      case rel => exact ⟨_,(6),(by first|rfl|(simp;done)|(simp [*];done)),H',⟨by first|omega|exact ye _⟩,⟨by (with_reducible repeat first|apply ze|apply zf|apply zg);refine cS3 ?_ NB477_483.out;(with_reducible repeat first|apply ze|apply zf|apply zg);exact BK477.out⟩,⟨by (with_reducible repeat first|apply ze|apply zf|apply zg);refine cS3 ?_ NB478_483.out;(with_reducible repeat first|apply ze|apply zf|apply zg);exact BK478.out⟩,⟨by (with_reducible repeat first|apply ze|apply zf|apply zg);refine zL (cs:=#[.string t480,.string t481,.bool false]) ?_ 2 _ rfl;(with_reducible repeat first|apply ze|apply zf|apply zg);refine zL (cs:=#[.string t480,.string (⟨#[]⟩ : ByteArray),.bool false]) ?_ 1 _ rfl;(with_reducible repeat first|apply ze|apply zf|apply zg);refine zL (cs:=#[.string (⟨#[]⟩ : ByteArray),.string (⟨#[]⟩ : ByteArray),.bool false]) ?_ 0 _ rfl;(with_reducible repeat first|apply ze|apply zf|apply zg);exact BK483.out⟩,⟨by repeat (with_reducible first|exact HB.out|apply za|apply zb|apply zc|refine zd ?_ GE477.out|refine zd ?_ GE478.out|refine zd ?_ GE483.out)⟩⟩
     rw [if_neg c25] at H;have c25b0 : (a0_0 == 4)=false:=zY.mpr c25;have c25b1 : (a0_0 != 4)=true:=zZ.mpr c25
     by_cases c29 : a0_0=5
     ·
      rw [if_pos c29] at H
      have c29b0 : (a0_0 == 5)=true:=ya.mpr c29;have c29b1 : (a0_0 != 5)=false:=zX.mpr c29;clear c29;have H':=zh H;clear H;have hnb30:=NB477_478.out;have hnc30:=NB478_477.out;have hnb31:=NB477_483.out;have hnc31:=NB483_477.out;obtain ⟨hcz32_0,hcz32_1,hcz32_2,hcz32_3,hcz32_4,hfz32_0,hfz32_1,hfz32_2,hfz32_3,hfz32_4⟩:=cB5 BK477.out
      go_wp2
      go_meet
      case rel => exact ⟨_,(3),(by first|rfl|(simp;done)|(simp [*];done)),H',⟨by first|omega|exact ye _⟩,⟨by (with_reducible repeat first|apply ze|apply zf|apply zg);refine cS3 ?_ NB477_483.out;(with_reducible repeat first|apply ze|apply zf|apply zg);exact BK477.out⟩,⟨by (with_reducible repeat first|apply ze|apply zf|apply zg);refine cS3 ?_ NB478_483.out;(with_reducible repeat first|apply ze|apply zf|apply zg);exact BK478.out⟩,⟨by (with_reducible repeat first|apply ze|apply zf|apply zg);refine zL (cs:=#[.string t480,.string t481,.bool false]) ?_ 2 _ rfl;(with_reducible repeat first|apply ze|apply zf|apply zg);refine zL (cs:=#[.string t480,.string (⟨#[]⟩ : ByteArray),.bool false]) ?_ 1 _ rfl;(with_reducible repeat first|apply ze|apply zf|apply zg);refine zL (cs:=#[.string (⟨#[]⟩ : ByteArray),.string (⟨#[]⟩ : ByteArray),.bool false]) ?_ 0 _ rfl;(with_reducible repeat first|apply ze|apply zf|apply zg);exact BK483.out⟩,⟨by repeat (with_reducible first|exact HB.out|apply za|apply zb|apply zc|refine zd ?_ GE477.out|refine zd ?_ GE478.out|refine zd ?_ GE483.out)⟩⟩
     rw [if_neg c29] at H;have c29b0 : (a0_0 == 5)=false:=zY.mpr c29;have c29b1 : (a0_0 != 5)=true:=zZ.mpr c29
     by_cases c33 : a0_0=6
     ·
      rw [if_pos c33] at H
      have c33b0 : (a0_0 == 6)=true:=ya.mpr c33;have c33b1 : (a0_0 != 6)=false:=zX.mpr c33;clear c33;have H':=zh H;clear H;have hnb34:=NB477_478.out;have hnc34:=NB478_477.out;have hnb35:=NB477_483.out;have hnc35:=NB483_477.out;obtain ⟨hcz36_0,hcz36_1,hcz36_2,hcz36_3,hcz36_4,hfz36_0,hfz36_1,hfz36_2,hfz36_3,hfz36_4⟩:=cB5 BK477.out
      go_wp2
      go_meet
      case rel => exact ⟨_,(4),(by first|rfl|(simp;done)|(simp [*];done)),H',⟨by first|omega|exact ye _⟩,⟨by (with_reducible repeat first|apply ze|apply zf|apply zg);refine cS3 ?_ NB477_483.out;(with_reducible repeat first|apply ze|apply zf|apply zg);exact BK477.out⟩,⟨by (with_reducible repeat first|apply ze|apply zf|apply zg);refine cS3 ?_ NB478_483.out;(with_reducible repeat first|apply ze|apply zf|apply zg);exact BK478.out⟩,⟨by (with_reducible repeat first|apply ze|apply zf|apply zg);refine zL (cs:=#[.string t480,.string t481,.bool false]) ?_ 2 _ rfl;(with_reducible repeat first|apply ze|apply zf|apply zg);refine zL (cs:=#[.string t480,.string (⟨#[]⟩ : ByteArray),.bool false]) ?_ 1 _ rfl;(with_reducible repeat first|apply ze|apply zf|apply zg);refine zL (cs:=#[.string (⟨#[]⟩ : ByteArray),.string (⟨#[]⟩ : ByteArray),.bool false]) ?_ 0 _ rfl;(with_reducible repeat first|apply ze|apply zf|apply zg);exact BK483.out⟩,⟨by repeat (with_reducible first|exact HB.out|apply za|apply zb|apply zc|refine zd ?_ GE477.out|refine zd ?_ GE478.out|refine zd ?_ GE483.out)⟩⟩
     rw [if_neg c33] at H;have c33b0 : (a0_0 == 6)=false:=zY.mpr c33;have c33b1 : (a0_0 != 6)=true:=zZ.mpr c33;have H':=zh H;clear H;have hnb37:=NB477_478.out;have hnc37:=NB478_477.out;have hnb38:=NB477_483.out;have hnc38:=NB483_477.out;obtain ⟨hcz39_0,hcz39_1,hcz39_2,hcz39_3,hcz39_4,hfz39_0,hfz39_1,hfz39_2,hfz39_3,hfz39_4⟩:=cB5 BK477.out
     go_wp2
     go_meet
     case rel => exact ⟨_,(a0_0),(by first|rfl|(simp;done)|(simp [*];done)),H',⟨by first|omega|exact ye _⟩,⟨by (with_reducible repeat first|apply ze|apply zf|apply zg);refine cS3 ?_ NB477_483.out;(with_reducible repeat first|apply ze|apply zf|apply zg);exact BK477.out⟩,⟨by (with_reducible repeat first|apply ze|apply zf|apply zg);refine cS3 ?_ NB478_483.out;(with_reducible repeat first|apply ze|apply zf|apply zg);exact BK478.out⟩,⟨by (with_reducible repeat first|apply ze|apply zf|apply zg);refine zL (cs:=#[.string t480,.string t481,.bool false]) ?_ 2 _ rfl;(with_reducible repeat first|apply ze|apply zf|apply zg);refine zL (cs:=#[.string t480,.string (⟨#[]⟩ : ByteArray),.bool false]) ?_ 1 _ rfl;(with_reducible repeat first|apply ze|apply zf|apply zg);refine zL (cs:=#[.string (⟨#[]⟩ : ByteArray),.string (⟨#[]⟩ : ByteArray),.bool false]) ?_ 0 _ rfl;(with_reducible repeat first|apply ze|apply zf|apply zg);exact BK483.out⟩,⟨by repeat (with_reducible first|exact HB.out|apply za|apply zb|apply zc|refine zd ?_ GE477.out|refine zd ?_ GE478.out|refine zd ?_ GE483.out)⟩⟩
    replace c20:=yb.mpr c20;subst c20;have H1 : (F6.j0 k false t479 a0_0 a0_0 a0_1 a0_2 a0_3 a0_4 t480 t481 t482)=some (r1,r2,r3):=by rw [if_neg (show ¬ (false=true) by decide)] at H;exact H
    clear H;have H:=H1;clear H1;have H':=zh H;clear H
    go_wp2
    go_meet
    case rel => exact ⟨_,(a0_0),(by first|rfl|(simp;done)|(simp [*];done)),H',⟨by first|omega|exact ye _⟩,⟨by (with_reducible repeat first|apply ze|apply zf|apply zg);refine cS3 ?_ NB477_483.out;(with_reducible repeat first|apply ze|apply zf|apply zg);exact BK477.out⟩,⟨by (with_reducible repeat first|apply ze|apply zf|apply zg);refine cS3 ?_ NB478_483.out;(with_reducible repeat first|apply ze|apply zf|apply zg);exact BK478.out⟩,⟨by (with_reducible repeat first|apply ze|apply zf|apply zg);refine zL (cs:=#[.string t480,.string t481,.bool false]) ?_ 2 _ rfl;(with_reducible repeat first|apply ze|apply zf|apply zg);refine zL (cs:=#[.string t480,.string (⟨#[]⟩ : ByteArray),.bool false]) ?_ 1 _ rfl;(with_reducible repeat first|apply ze|apply zf|apply zg);refine zL (cs:=#[.string (⟨#[]⟩ : ByteArray),.string (⟨#[]⟩ : ByteArray),.bool false]) ?_ 0 _ rfl;(with_reducible repeat first|apply ze|apply zf|apply zg);exact BK483.out⟩,⟨by repeat (with_reducible first|exact HB.out|apply za|apply zb|apply zc|refine zd ?_ GE477.out|refine zd ?_ GE478.out|refine zd ?_ GE483.out)⟩⟩
   case rest =>
    clear HC7
    try clear c1 c2
    try clear p2
    try clear c3 c4 c4b0 c4b1 c5 c5b0 c5b1 c10 c14 c20 c21 c21b0 c21b1 c22 c23 c25 c25b0 c25b1 c26 c27 c29 c29b0 c29b1 c30 c31 c33 c33b0 c33b1 c34 c35 c37 c38
    try clear hcz11_0 hcz11_1 hcz11_2 hcz11_3 hcz11_4
    try clear hcz24_0 hcz24_1 hcz24_2 hcz24_3 hcz24_4
    try clear hcz28_0 hcz28_1 hcz28_2 hcz28_3 hcz28_4
    try clear hcz32_0 hcz32_1 hcz32_2 hcz32_3 hcz32_4
    try clear hcz36_0 hcz36_1 hcz36_2 hcz36_3 hcz36_4
    try clear hcz39_0 hcz39_1 hcz39_2 hcz39_3 hcz39_4
    try clear hfz11_0 hfz11_1 hfz11_2 hfz11_3 hfz11_4
    try clear hfz24_0 hfz24_1 hfz24_2 hfz24_3 hfz24_4
    try clear hfz28_0 hfz28_1 hfz28_2 hfz28_3 hfz28_4
    try clear hfz32_0 hfz32_1 hfz32_2 hfz32_3 hfz32_4
    try clear hfz36_0 hfz36_1 hfz36_2 hfz36_3 hfz36_4
    try clear hfz39_0 hfz39_1 hfz39_2 hfz39_3 hfz39_4
    obtain ⟨kq,x7_6,rfl,HA,HJ6,BK477,BK478,BK483,HB⟩:=hcut
    cases kq with
    | zero => exact absurd HA.out (by simp [F6.j0])
    | succ kj6 =>
     have H:=HA.out;clear HA;simp only [F6.j0] at H
     by_cases c40 : x7_6=1
     ·
      rw [if_pos c40] at H
      have c40b0 : (x7_6 == 1)=true:=ya.mpr c40;have c40b1 : (x7_6 != 1)=false:=zX.mpr c40;clear c40;replace H:=zT.mp H;obtain ⟨⟨t484,t485,t486⟩,A410,H⟩:=H;replace H : (some (t484,t485,t486))=some (r1,r2,r3):=H;have A41:=zh A410;clear A410;simp only [Option.some.injEq,Prod.mk.injEq] at H;obtain ⟨rfl,rfl,rfl⟩:=H
      go_wp2_with (first|((with_reducible refine zJ (f:=27) rfl ?_);refine yj (some 33) rfl rfl Tryd.func27 (by kernel_rfl) rfl #[.string t479] rfl (by (try simp only [zt,zu,zv]);first|done|rfl|(simp only [zw,zx];rfl)|(simp only [yr,ys,zV,zW];rfl)) ?_;(with_reducible refine (Fd.calls kj6  t479 t484 t485 t486 _ A41.out).mono ?_);rintro e w42 ⟨rfl,hb⟩;refine ⟨_,rfl,?_⟩;replace BK477:=zh (cD BK477.out (by (with_reducible repeat first|apply ze|apply zf|apply zg);exact BK477.out) hb);replace BK478:=zh (cD BK478.out (by (with_reducible repeat first|apply ze|apply zf|apply zg);exact BK478.out) hb);replace BK483:=zh (cD BK483.out (by (with_reducible repeat first|apply ze|apply zf|apply zg);exact BK483.out) hb);replace HB:=zh (zC (by repeat (with_reducible first|exact HB.out|apply za|apply zb|apply zc|refine zd ?_ GE477.out|refine zd ?_ GE478.out|refine zd ?_ GE483.out)) hb);(try clear hb);(try clear hb2);(try clear hk);(try clear hi);have hnb43:=NB478_477.out;have hnc43:=NB477_478.out;have hnb44:=NB478_483.out;have hnc44:=NB483_478.out;obtain ⟨hcz45_0,hcz45_1,hcz45_2,hfz45_0,hfz45_1,hfz45_2⟩:=cB3 BK478.out))
      refine bodyPost_ret (results_cell_row rfl _ _ gb478 28 #[.string t484,.string t485,.bool t486] (0,0) _ rfl (by (with_reducible repeat first|apply ze|apply zf|apply zg);refine zL (cs:=#[.string t484,.string t485,.bool false]) ?_ 2 _ rfl;(with_reducible repeat first|apply ze|apply zf|apply zg);refine zL (cs:=#[.string t484,.string (⟨#[]⟩ : ByteArray),.bool false]) ?_ 1 _ rfl;(with_reducible repeat first|apply ze|apply zf|apply zg);refine zL (cs:=#[.string (⟨#[]⟩ : ByteArray),.string (⟨#[]⟩ : ByteArray),.bool false]) ?_ 0 _ rfl;(with_reducible repeat first|apply ze|apply zf|apply zg);exact BK478.out) Tryd.underlying28 rfl (by kernel_rfl)) rfl ?_;exact ⟨by first|rfl|(simp [yt,yu] <;> rfl)|(simp [*,yt,yu] <;> rfl),by repeat (with_reducible first|exact HB.out|apply za|apply zb|apply zc|refine zd ?_ GE477.out|refine zd ?_ GE478.out|refine zd ?_ GE483.out)⟩
     rw [if_neg c40] at H;have c40b0 : (x7_6 == 1)=false:=zY.mpr c40;have c40b1 : (x7_6 != 1)=true:=zZ.mpr c40
     by_cases c46 : x7_6=9
     ·
      rw [if_pos c46] at H
      have c46b0 : (x7_6 == 9)=true:=ya.mpr c46;have c46b1 : (x7_6 != 9)=false:=zX.mpr c46;clear c46;obtain ⟨y487,hy487⟩ : ∃ y_ : List Int,y_=(([(wrap64 (a0_3 + 1)) % 256] : List Int)):=⟨_,rfl⟩;replace H : ((Fu.f y487 a1).bind fun t490 => ((Fd.f kj6 t490).bind fun bt491 => (some (bt491.1,bt491.2.1,bt491.2.2))))=some (r1,r2,r3):=by first|(rw [hy487];with_reducible exact H)|(have H2_:=(Option.bind_some _ _).symm.trans H;rw [hy487];with_reducible exact H2_)|(have H2_:=(Option.bind_some _ _).symm.trans H;with_reducible exact H2_)|with_reducible exact H|(rw [hy487];exact H)|exact H
      have Ny487:=zh hy487;clear hy487;replace H:=zT.mp H;obtain ⟨t490,A470,H⟩:=H;replace H : ((Fd.f kj6 t490).bind fun bt491 => (some (bt491.1,bt491.2.1,bt491.2.2)))=some (r1,r2,r3):=H;have A47:=zh A470;clear A470;replace H:=zT.mp H;obtain ⟨⟨t491,t492,t493⟩,A480,H⟩:=H;replace H : (some (t491,t492,t493))=some (r1,r2,r3):=H;have A48:=zh A480;clear A480;simp only [Option.some.injEq,Prod.mk.injEq] at H;obtain ⟨rfl,rfl,rfl⟩:=H;have hnb49:=NB477_478.out;have hnc49:=NB478_477.out;have hnb50:=NB477_483.out;have hnc50:=NB483_477.out;obtain ⟨hcz51_0,hcz51_1,hcz51_2,hcz51_3,hcz51_4,hfz51_0,hfz51_1,hfz51_2,hfz51_3,hfz51_4⟩:=cB5 BK477.out
      go_wp2_with (first|((with_reducible refine zK (N:=41) rfl ?_);refine Kd.R_lit (Kd.int .u8) _ 5 ?hg (N:=41) ?hd (xs:=([(wrap64 (a0_3 + 1)) % 256] : List Int)) (inner:=[.int .u8 ((wrap64 (a0_3 + 1)) % 256)]) (ok:=fun _ => True) (okp:=fun _ => True) ?hr ?hp (fun _ hk => hk) trivial (Below.refl _ _) (ye _) (by simp) ?_;(case hd|hg => rfl);(case hr => go_simp <;> rfl);(case hp => exact (Reps.one (show Kd.M (Kd.int .u8) _ _ _ ((wrap64 (a0_3 + 1)) % 256) [.int .u8 ((wrap64 (a0_3 + 1)) % 256)] from rfl) (Reps.none _ _)));intro v488 w52 ho53 hb hg_ hnew_;clear hg_ hnew_;(first|rw [← Ny487.out] at ho53|(simp only [Int.reduceToNat] at ho53;rw [← Ny487.out] at ho53));have HO489:=zh (yy ho53 (zB (by repeat (with_reducible first|exact HB.out|apply za|apply zb|apply zc|refine zd ?_ GE477.out|refine zd ?_ GE478.out|refine zd ?_ GE483.out))));replace BK477:=zh (cD BK477.out (by (with_reducible repeat first|apply ze|apply zf|apply zg);exact BK477.out) hb);replace BK478:=zh (cD BK478.out (by (with_reducible repeat first|apply ze|apply zf|apply zg);exact BK478.out) hb);replace BK483:=zh (cD BK483.out (by (with_reducible repeat first|apply ze|apply zf|apply zg);exact BK483.out) hb);replace HB:=zh (zC (by repeat (with_reducible first|exact HB.out|apply za|apply zb|apply zc|refine zd ?_ GE477.out|refine zd ?_ GE478.out|refine zd ?_ GE483.out)) hb);clear hb ho53;obtain ⟨Ao54,co54,eo54⟩:=yk HO489.out;subst eo54)|((with_reducible refine zJ (f:=28) rfl ?_);refine yj (some 43) rfl rfl Tryd.func28 (by kernel_rfl) rfl #[.slice Ao54 y487.length co54,.bool a1] rfl (by (try simp only [zt,zu,zv]);first|done|rfl|(simp only [zw,zx];rfl)|(simp only [yr,ys,zV,zW];rfl)) ?_;(with_reducible refine (Fu.calls  (fun k_ => some k_=(.slice Ao54 y487.length co54 : Value).ownBlock) (.slice Ao54 y487.length co54) y487 a1 t490 w _ ?side1 ?side2 A47.out).mono ?_);(case side1 => repeat (with_reducible first|exact HB.out|apply za|apply zb|apply zc|refine zd ?_ GE477.out|refine zd ?_ GE478.out|refine zd ?_ GE483.out));(case side2 => exact Kd.R_tight rfl HO489.out);rintro e w55 ⟨rfl,hb,hkp⟩;refine ⟨_,rfl,?_⟩;replace BK477:=zh (blk_kept (by (with_reducible repeat first|apply ze|apply zf|apply zg);exact BK477.out) hkp (fun hs_ => (fun e_ => (Kd.R_ne HO489.out BK477.out (by decide)) e_) hs_));replace BK478:=zh (blk_kept (by (with_reducible repeat first|apply ze|apply zf|apply zg);exact BK478.out) hkp (fun hs_ => (fun e_ => (Kd.R_ne HO489.out BK478.out (by decide)) e_) hs_));replace BK483:=zh (blk_kept (by (with_reducible repeat first|apply ze|apply zf|apply zg);exact BK483.out) hkp (fun hs_ => (fun e_ => (Kd.R_ne HO489.out BK483.out (by decide)) e_) hs_));replace HB:=zh (hb);clear HO489;(try clear hb);(try clear hkp))|((with_reducible refine zJ (f:=27) rfl ?_);refine yj (some 44) rfl rfl Tryd.func27 (by kernel_rfl) rfl #[.string t490] rfl (by (try simp only [zt,zu,zv]);first|done|rfl|(simp only [zw,zx];rfl)|(simp only [yr,ys,zV,zW];rfl)) ?_;(with_reducible refine (Fd.calls kj6  t490 t491 t492 t493 _ A48.out).mono ?_);rintro e w56 ⟨rfl,hb⟩;refine ⟨_,rfl,?_⟩;replace BK477:=zh (cD BK477.out (by (with_reducible repeat first|apply ze|apply zf|apply zg);exact BK477.out) hb);replace BK478:=zh (cD BK478.out (by (with_reducible repeat first|apply ze|apply zf|apply zg);exact BK478.out) hb);replace BK483:=zh (cD BK483.out (by (with_reducible repeat first|apply ze|apply zf|apply zg);exact BK483.out) hb);replace HB:=zh (zC (by repeat (with_reducible first|exact HB.out|apply za|apply zb|apply zc|refine zd ?_ GE477.out|refine zd ?_ GE478.out|refine zd ?_ GE483.out)) hb);(try clear hb);(try clear hb2);(try clear hk);(try clear hi);have hnb57:=NB478_483.out;have hnc57:=NB483_478.out;obtain ⟨hcz58_0,hcz58_1,hcz58_2,hfz58_0,hfz58_1,hfz58_2⟩:=cB3 BK478.out))
      refine bodyPost_ret (results_cell_row rfl _ _ gb478 28 #[.string t491,.string t492,.bool t493] (0,0) _ rfl (by (with_reducible repeat first|apply ze|apply zf|apply zg);refine zL (cs:=#[.string t491,.string t492,.bool false]) ?_ 2 _ rfl;(with_reducible repeat first|apply ze|apply zf|apply zg);refine zL (cs:=#[.string t491,.string (⟨#[]⟩ : ByteArray),.bool false]) ?_ 1 _ rfl;(with_reducible repeat first|apply ze|apply zf|apply zg);refine zL (cs:=#[.string (⟨#[]⟩ : ByteArray),.string (⟨#[]⟩ : ByteArray),.bool false]) ?_ 0 _ rfl;(with_reducible repeat first|apply ze|apply zf|apply zg);exact BK478.out) Tryd.underlying28 rfl (by kernel_rfl)) rfl ?_;exact ⟨by first|rfl|(simp [yt,yu] <;> rfl)|(simp [*,yt,yu] <;> rfl),by repeat (with_reducible first|exact HB.out|apply za|apply zb|apply zc|refine zd ?_ GE477.out|refine zd ?_ GE478.out|refine zd ?_ GE483.out)⟩
     rw [if_neg c46] at H;have c46b0 : (x7_6 == 9)=false:=zY.mpr c46;have c46b1 : (x7_6 != 9)=true:=zZ.mpr c46
     by_cases c59 : x7_6=5
     ·
      rw [if_pos c59] at H
      have c59b0 : (x7_6 == 5)=true:=ya.mpr c59;have c59b1 : (x7_6 != 5)=false:=zX.mpr c59;clear c59;replace H:=zT.mp H;obtain ⟨⟨t494,t495,t496⟩,A600,H⟩:=H;replace H : (some (t495,t481,t482))=some (r1,r2,r3):=H;have A60:=zh A600;clear A600;simp only [Option.some.injEq,Prod.mk.injEq] at H;obtain ⟨rfl,rfl,rfl⟩:=H
      go_wp2_with (first|((with_reducible refine zJ (f:=27) rfl ?_);refine yj (some 48) rfl rfl Tryd.func27 (by kernel_rfl) rfl #[.string t479] rfl (by (try simp only [zt,zu,zv]);first|done|rfl|(simp only [zw,zx];rfl)|(simp only [yr,ys,zV,zW];rfl)) ?_;(with_reducible refine (Fd.calls kj6  t479 t494 t495 t496 _ A60.out).mono ?_);rintro e w61 ⟨rfl,hb⟩;refine ⟨_,rfl,?_⟩;replace BK477:=zh (cD BK477.out (by (with_reducible repeat first|apply ze|apply zf|apply zg);exact BK477.out) hb);replace BK478:=zh (cD BK478.out (by (with_reducible repeat first|apply ze|apply zf|apply zg);exact BK478.out) hb);replace BK483:=zh (cD BK483.out (by (with_reducible repeat first|apply ze|apply zf|apply zg);exact BK483.out) hb);replace HB:=zh (zC (by repeat (with_reducible first|exact HB.out|apply za|apply zb|apply zc|refine zd ?_ GE477.out|refine zd ?_ GE478.out|refine zd ?_ GE483.out)) hb);(try clear hb);(try clear hb2);(try clear hk);(try clear hi);have hnb62:=NB483_477.out;have hnc62:=NB477_483.out;have hnb63:=NB483_478.out;have hnc63:=NB478_483.out;obtain ⟨hcz64_0,hcz64_1,hcz64_2,hfz64_0,hfz64_1,hfz64_2⟩:=cB3 BK483.out;have hnb65:=NB478_477.out;have hnc65:=NB477_478.out;obtain ⟨hcz66_0,hcz66_1,hcz66_2,hfz66_0,hfz66_1,hfz66_2⟩:=cB3 BK478.out))
      refine bodyPost_ret (results_cell_row rfl _ _ gb478 28 #[.string t495,.string t481,.bool t482] (0,0) _ rfl (by (with_reducible repeat first|apply ze|apply zf|apply zg);refine zL (cs:=#[.string t495,.string t481,.bool false]) ?_ 2 _ rfl;(with_reducible repeat first|apply ze|apply zf|apply zg);refine zL (cs:=#[.string t495,.string (⟨#[]⟩ : ByteArray),.bool false]) ?_ 1 _ rfl;(with_reducible repeat first|apply ze|apply zf|apply zg);refine zL (cs:=#[.string (⟨#[]⟩ : ByteArray),.string (⟨#[]⟩ : ByteArray),.bool false]) ?_ 0 _ rfl;(with_reducible repeat first|apply ze|apply zf|apply zg);refine zS ?_ NB478_483.out _;(with_reducible repeat first|apply ze|apply zf|apply zg);exact BK478.out) Tryd.underlying28 rfl (by kernel_rfl)) rfl ?_;exact ⟨by first|rfl|(simp [yt,yu] <;> rfl)|(simp [*,yt,yu] <;> rfl),by repeat (with_reducible first|exact HB.out|apply za|apply zb|apply zc|refine zd ?_ GE477.out|refine zd ?_ GE478.out|refine zd ?_ GE483.out)⟩
     rw [if_neg c59] at H;have c59b0 : (x7_6 == 5)=false:=zY.mpr c59;have c59b1 : (x7_6 != 5)=true:=zZ.mpr c59
     by_cases c67 : x7_6=6
     ·
      rw [if_pos c67] at H
      have c67b0 : (x7_6 == 6)=true:=ya.mpr c67;have c67b1 : (x7_6 != 6)=false:=zX.mpr c67;clear c67;simp only [Option.some.injEq,Prod.mk.injEq] at H;obtain ⟨rfl,rfl,rfl⟩:=H;have hnb68:=NB483_477.out;have hnc68:=NB477_483.out;have hnb69:=NB483_478.out;have hnc69:=NB478_483.out;obtain ⟨hcz70_0,hcz70_1,hcz70_2,hfz70_0,hfz70_1,hfz70_2⟩:=cB3 BK483.out;have hnb71:=NB478_477.out;have hnc71:=NB477_478.out;obtain ⟨hcz72_0,hcz72_1,hcz72_2,hfz72_0,hfz72_1,hfz72_2⟩:=cB3 BK478.out
      go_wp2
      refine bodyPost_ret (results_cell_row rfl _ _ gb478 28 #[.string t479,.string t481,.bool t482] (0,0) _ rfl (by (with_reducible repeat first|apply ze|apply zf|apply zg);refine zL (cs:=#[.string t479,.string t481,.bool false]) ?_ 2 _ rfl;(with_reducible repeat first|apply ze|apply zf|apply zg);refine zL (cs:=#[.string t479,.string (⟨#[]⟩ : ByteArray),.bool false]) ?_ 1 _ rfl;(with_reducible repeat first|apply ze|apply zf|apply zg);refine zL (cs:=#[.string (⟨#[]⟩ : ByteArray),.string (⟨#[]⟩ : ByteArray),.bool false]) ?_ 0 _ rfl;(with_reducible repeat first|apply ze|apply zf|apply zg);refine zS ?_ NB478_483.out _;(with_reducible repeat first|apply ze|apply zf|apply zg);exact BK478.out) Tryd.underlying28 rfl (by kernel_rfl)) rfl ?_;exact ⟨by first|rfl|(simp [yt,yu] <;> rfl)|(simp [*,yt,yu] <;> rfl),by repeat (with_reducible first|exact HB.out|apply za|apply zb|apply zc|refine zd ?_ GE477.out|refine zd ?_ GE478.out|refine zd ?_ GE483.out)⟩
     rw [if_neg c67] at H;have c67b0 : (x7_6 == 6)=false:=zY.mpr c67;have c67b1 : (x7_6 != 6)=true:=zZ.mpr c67
     by_cases c73 : x7_6=3
     ·
      rw [if_pos c73] at H
      have c73b0 : (x7_6 == 3)=true:=ya.mpr c73;have c73b1 : (x7_6 != 3)=false:=zX.mpr c73;clear c73;simp only [Option.some.injEq,Prod.mk.injEq] at H;obtain ⟨rfl,rfl,rfl⟩:=H;have hnb74:=NB483_477.out;have hnc74:=NB477_483.out;have hnb75:=NB483_478.out;have hnc75:=NB478_483.out;obtain ⟨hcz76_0,hcz76_1,hcz76_2,hfz76_0,hfz76_1,hfz76_2⟩:=cB3 BK483.out;have hnb77:=NB478_477.out;have hnc77:=NB477_478.out;obtain ⟨hcz78_0,hcz78_1,hcz78_2,hfz78_0,hfz78_1,hfz78_2⟩:=cB3 BK478.out
      go_wp2
      refine bodyPost_ret (results_cell_row rfl _ _ gb478 28 #[.string t480,.string t479,.bool t482] (0,0) _ rfl (by (with_reducible repeat first|apply ze|apply zf|apply zg);refine zL (cs:=#[.string t480,.string t479,.bool false]) ?_ 2 _ rfl;(with_reducible repeat first|apply ze|apply zf|apply zg);refine zL (cs:=#[.string t480,.string (⟨#[]⟩ : ByteArray),.bool false]) ?_ 1 _ rfl;(with_reducible repeat first|apply ze|apply zf|apply zg);refine zL (cs:=#[.string (⟨#[]⟩ : ByteArray),.string (⟨#[]⟩ : ByteArray),.bool false]) ?_ 0 _ rfl;(with_reducible repeat first|apply ze|apply zf|apply zg);refine zS ?_ NB478_483.out _;(with_reducible repeat first|apply ze|apply zf|apply zg);exact BK478.out) Tryd.underlying28 rfl (by kernel_rfl)) rfl ?_;exact ⟨by first|rfl|(simp [yt,yu] <;> rfl)|(simp [*,yt,yu] <;> rfl),by repeat (with_reducible first|exact HB.out|apply za|apply zb|apply zc|refine zd ?_ GE477.out|refine zd ?_ GE478.out|refine zd ?_ GE483.out)⟩
     rw [if_neg c73] at H;have c73b0 : (x7_6 == 3)=false:=zY.mpr c73;have c73b1 : (x7_6 != 3)=true:=zZ.mpr c73
     by_cases c79 : x7_6=4
     ·
      rw [if_pos c79] at H
      have c79b0 : (x7_6 == 4)=true:=ya.mpr c79;have c79b1 : (x7_6 != 4)=false:=zX.mpr c79;clear c79;replace H:=zT.mp H;obtain ⟨⟨t497,t498,t499⟩,A800,H⟩:=H;replace H : (some (t480,t498,t482))=some (r1,r2,r3):=H;have A80:=zh A800;clear A800;simp only [Option.some.injEq,Prod.mk.injEq] at H;obtain ⟨rfl,rfl,rfl⟩:=H
      go_wp2_with (first|((with_reducible refine zJ (f:=27) rfl ?_);refine yj (some 62) rfl rfl Tryd.func27 (by kernel_rfl) rfl #[.string t479] rfl (by (try simp only [zt,zu,zv]);first|done|rfl|(simp only [zw,zx];rfl)|(simp only [yr,ys,zV,zW];rfl)) ?_;(with_reducible refine (Fd.calls kj6  t479 t497 t498 t499 _ A80.out).mono ?_);rintro e w81 ⟨rfl,hb⟩;refine ⟨_,rfl,?_⟩;replace BK477:=zh (cD BK477.out (by (with_reducible repeat first|apply ze|apply zf|apply zg);exact BK477.out) hb);replace BK478:=zh (cD BK478.out (by (with_reducible repeat first|apply ze|apply zf|apply zg);exact BK478.out) hb);replace BK483:=zh (cD BK483.out (by (with_reducible repeat first|apply ze|apply zf|apply zg);exact BK483.out) hb);replace HB:=zh (zC (by repeat (with_reducible first|exact HB.out|apply za|apply zb|apply zc|refine zd ?_ GE477.out|refine zd ?_ GE478.out|refine zd ?_ GE483.out)) hb);(try clear hb);(try clear hb2);(try clear hk);(try clear hi);have hnb82:=NB483_477.out;have hnc82:=NB477_483.out;have hnb83:=NB483_478.out;have hnc83:=NB478_483.out;obtain ⟨hcz84_0,hcz84_1,hcz84_2,hfz84_0,hfz84_1,hfz84_2⟩:=cB3 BK483.out;have hnb85:=NB478_477.out;have hnc85:=NB477_478.out;obtain ⟨hcz86_0,hcz86_1,hcz86_2,hfz86_0,hfz86_1,hfz86_2⟩:=cB3 BK478.out))
      refine bodyPost_ret (results_cell_row rfl _ _ gb478 28 #[.string t480,.string t498,.bool t482] (0,0) _ rfl (by (with_reducible repeat first|apply ze|apply zf|apply zg);refine zL (cs:=#[.string t480,.string t498,.bool false]) ?_ 2 _ rfl;(with_reducible repeat first|apply ze|apply zf|apply zg);refine zL (cs:=#[.string t480,.string (⟨#[]⟩ : ByteArray),.bool false]) ?_ 1 _ rfl;(with_reducible repeat first|apply ze|apply zf|apply zg);refine zL (cs:=#[.string (⟨#[]⟩ : ByteArray),.string (⟨#[]⟩ : ByteArray),.bool false]) ?_ 0 _ rfl;(with_reducible repeat first|apply ze|apply zf|apply zg);refine zS ?_ NB478_483.out _;(with_reducible repeat first|apply ze|apply zf|apply zg);exact BK478.out) Tryd.underlying28 rfl (by kernel_rfl)) rfl ?_;exact ⟨by first|rfl|(simp [yt,yu] <;> rfl)|(simp [*,yt,yu] <;> rfl),by repeat (with_reducible first|exact HB.out|apply za|apply zb|apply zc|refine zd ?_ GE477.out|refine zd ?_ GE478.out|refine zd ?_ GE483.out)⟩
     rw [if_neg c79] at H;have c79b0 : (x7_6 == 4)=false:=zY.mpr c79;have c79b1 : (x7_6 != 4)=true:=zZ.mpr c79;simp only [Option.some.injEq,Prod.mk.injEq] at H;obtain ⟨rfl,rfl,rfl⟩:=H;have hnb87:=NB478_477.out;have hnc87:=NB477_478.out;have hnb88:=NB478_483.out;have hnc88:=NB483_478.out;obtain ⟨hcz89_0,hcz89_1,hcz89_2,hfz89_0,hfz89_1,hfz89_2⟩:=cB3 BK478.out
     go_wp2
     refine bodyPost_ret (results_cell_row rfl _ _ gb478 28 #[.string (⟨#[]⟩ : ByteArray),.string (⟨#[]⟩ : ByteArray),.bool true] (0,0) _ rfl (by (with_reducible repeat first|apply ze|apply zf|apply zg);refine zL (cs:=#[.string (⟨#[]⟩ : ByteArray),.string (⟨#[]⟩ : ByteArray),.bool false]) ?_ 2 _ rfl;(with_reducible repeat first|apply ze|apply zf|apply zg);refine zL (cs:=#[.string (⟨#[]⟩ : ByteArray),.string (⟨#[]⟩ : ByteArray),.bool false]) ?_ 1 _ rfl;(with_reducible repeat first|apply ze|apply zf|apply zg);refine zL (cs:=#[.string (⟨#[]⟩ : ByteArray),.string (⟨#[]⟩ : ByteArray),.bool false]) ?_ 0 _ rfl;(with_reducible repeat first|apply ze|apply zf|apply zg);exact BK478.out) Tryd.underlying28 rfl (by kernel_rfl)) rfl ?_;exact ⟨by first|rfl|(simp [yt,yu] <;> rfl)|(simp [*,yt,yu] <;> rfl),by repeat (with_reducible first|exact HB.out|apply za|apply zb|apply zc|refine zd ?_ GE477.out|refine zd ?_ GE478.out|refine zd ?_ GE483.out)⟩
  rw [if_neg c5] at H;exact absurd H (by simp)
 rw [if_neg c4] at H;exact absurd H (by simp)

end Go.Proofs.YthjgfjlogilleabDoor.Q
end
section
namespace Go.Proofs.YthjgfjlogilleabDoor.Q
open Go.RowKit Go.Proofs.YthjgfjlogilleabDoorW.PrintWords Go.Proofs.YthjgfjlogilleabDoorW.PrintLast Go.Proofs.YthjgfjlogilleabDoorW.PrintMore
attribute [local go_sem] max2_int min2_int max_two min_two max_three min_three max_four min_four max2_str min2_str str_geq str_gtr str_leq
set_option linter.unusedVariables false
set_option linter.unusedSimpArgs false

def F06.f (k : Nat) (a0_0 : Int) (a0_1 : ByteArray) (a0_2 : Int) (a0_3 : Int) (a0_4 : ByteArray) (a1 : Bool) : Option (ByteArray×ByteArray×Bool×Int):=(Fo.f k a0_0 a0_1 a0_2 a0_3 a0_4).bind fun t502 => (if t502=true then ((F6.f k a0_0 a0_1 a0_2 a0_3 a0_4 a1).bind fun bt503 => (some (bt503.1,bt503.2.1,bt503.2.2,0))) else (some ((⟨#[]⟩ : ByteArray),(⟨#[]⟩ : ByteArray),false,1)))
theorem F06.mono : ∀ a0 a1 a2 a3 a4 a5 k,LeO (F06.f k a0 a1 a2 a3 a4 a5) (F06.f (k + 1) a0 a1 a2 a3 a4 a5):=by
 intro a0 a1 a2 a3 a4 a5 k;unfold F06.f
 repeat' first|(with_reducible first|exact Fo.mono _ _ _ _ _ _|exact F6.mono _ _ _ _ _ _ _|exact zQ _|exact zN _|refine zP ?_ ?_|refine zO ?_ (fun _ => ?_))|refine zP ?_ ?_|refine zO ?_ (fun _ => ?_)
set_option maxHeartbeats 8000000 in
set_option maxRecDepth 100000 in
theorem F06.calls (k : Nat) (a0_0 : Int) (a0_1 : ByteArray) (a0_2 : Int) (a0_3 : Int) (a0_4 : ByteArray) (a1 : Bool) (r1 : ByteArray) (r2 : ByteArray) (r3 : Bool) (r4 : Int) (w : World) (h : F06.f k a0_0 a0_1 a0_2 a0_3 a0_4 a1=some (r1,r2,r3,r4)) :
  Calls Tryd.prog 7 #[.agg #[.int .i64 a0_0,.string a0_1,.int .i64 a0_2,.int .i64 a0_3,.string a0_4],.bool a1] w fun e w' => e = .returned (.tuple #[.agg #[.string r1,.string r2,.bool r3],.int .i64 r4])∧Below w.heap.size w w':=by
 have hu33:=Tryd.underlying33;have hu28:=Tryd.underlying28;have HB:=zh (Below.refl w.heap.size w);have H : ((Fo.f k a0_0 a0_1 a0_2 a0_3 a0_4).bind fun t502 => (if t502=true then ((F6.f k a0_0 a0_1 a0_2 a0_3 a0_4 a1).bind fun bt503 => (some (bt503.1,bt503.2.1,bt503.2.2,0))) else (some ((⟨#[]⟩ : ByteArray),(⟨#[]⟩ : ByteArray),false,1))))=some (r1,r2,r3,r4):=h;clear h;replace H:=zT.mp H;obtain ⟨t502,A30,H⟩:=H;replace H : (if t502=true then ((F6.f k a0_0 a0_1 a0_2 a0_3 a0_4 a1).bind fun bt503 => (some (bt503.1,bt503.2.1,bt503.2.2,0))) else (some ((⟨#[]⟩ : ByteArray),(⟨#[]⟩ : ByteArray),false,1)))=some (r1,r2,r3,r4):=H;have A3:=zh A30;clear A30
 by_cases c4 : t502=true
 ·
  subst c4
  have H1 : ((F6.f k a0_0 a0_1 a0_2 a0_3 a0_4 a1).bind fun bt503 => (some (bt503.1,bt503.2.1,bt503.2.2,0)))=some (r1,r2,r3,r4):=by rw [if_pos rfl] at H;exact H
  clear H;have H:=H1;clear H1;replace H:=zT.mp H;obtain ⟨⟨t503,t504,t505⟩,A50,H⟩:=H;replace H : (some (t503,t504,t505,0))=some (r1,r2,r3,r4):=H;have A5:=zh A50;clear A50;simp only [Option.some.injEq,Prod.mk.injEq] at H;obtain ⟨rfl,rfl,rfl,rfl⟩:=H
  go_enter Tryd.func7,Tryd.ntmps7
  go_wp2_with (first|((with_reducible refine zK (N:=2) rfl ?_);refine zI ?hg (N:=2) ?hd (cs:=#[.int .i64 a0_0,.string a0_1,.int .i64 a0_2,.int .i64 a0_3,.string a0_4]) (t:=33) ?hr ?_;(case hd|hg => rfl);(case hr => go_simp <;> rfl);intro gb500 hg w6 hbox hb;have BK500:=zh (hbox);have hH_:=cH (by repeat (with_reducible first|exact HB.out|apply za|apply zb|apply zc)) hb hg;have GW500:=zh hH_.1;have GE500:=GW500;replace HB:=zh hH_.2;clear hb hbox hg hH_)|((with_reducible refine zK (N:=4) rfl ?_);refine zI ?hg (N:=4) ?hd (cs:=#[.string (⟨#[]⟩ : ByteArray),.string (⟨#[]⟩ : ByteArray),.bool false]) (t:=28) ?hr ?_;(case hd|hg => rfl);(case hr => go_simp <;> rfl);intro gb501 hg w7 hbox hb;have BK501:=zh (hbox);have hH_:=cH (by repeat (with_reducible first|exact HB.out|apply za|apply zb|apply zc|refine zd ?_ GE500.out)) hb hg;have GW501:=zh hH_.1;have GE501:=GW501;replace HB:=zh hH_.2;have NB500_501:=zh ((by rw [hg];exact yc (yi (g:=gb500) (o:=.cells #[.int .i64 a0_0,.string a0_1,.int .i64 a0_2,.int .i64 a0_3,.string a0_4] 33 (0,0)) (by (with_reducible repeat first|apply ze|apply zf|apply zg);exact BK500.out)) : gb500≠gb501));have NB501_500:=zh NB500_501.out.symm;replace BK500:=zh (cD BK500.out (by (with_reducible repeat first|apply ze|apply zf|apply zg);exact BK500.out) hb);clear hb hbox hg hH_;have hnb8:=NB500_501.out;have hnc8:=NB501_500.out;obtain ⟨hcz9_0,hcz9_1,hcz9_2,hcz9_3,hcz9_4,hfz9_0,hfz9_1,hfz9_2,hfz9_3,hfz9_4⟩:=cB5 BK500.out)|((with_reducible refine zJ (f:=13) rfl ?_);refine yj (some 7) rfl rfl Tryd.func13 (by kernel_rfl) rfl #[.agg #[.int .i64 a0_0,.string a0_1,.int .i64 a0_2,.int .i64 a0_3,.string a0_4]] rfl (by (try simp only [zt,zu,zv]);first|done|rfl|(simp only [zw,zx];rfl)|(simp only [yr,ys,zV,zW];rfl)) ?_;(with_reducible refine (Fo.calls k  a0_0 a0_1 a0_2 a0_3 a0_4 true _ A3.out).mono ?_);rintro e w10 ⟨rfl,hb⟩;refine ⟨_,rfl,?_⟩;replace BK500:=zh (cD BK500.out (by (with_reducible repeat first|apply ze|apply zf|apply zg);exact BK500.out) hb);replace BK501:=zh (cD BK501.out (by (with_reducible repeat first|apply ze|apply zf|apply zg);exact BK501.out) hb);replace HB:=zh (zC (by repeat (with_reducible first|exact HB.out|apply za|apply zb|apply zc|refine zd ?_ GE500.out|refine zd ?_ GE501.out)) hb);(try clear hb);(try clear hb2);(try clear hk);(try clear hi);obtain ⟨hcz11_0,hcz11_1,hcz11_2,hcz11_3,hcz11_4,hfz11_0,hfz11_1,hfz11_2,hfz11_3,hfz11_4⟩:=cB5 BK500.out)|((with_reducible refine zJ (f:=14) rfl ?_);refine yj (some 12) rfl rfl Tryd.func14 (by kernel_rfl) rfl #[.agg #[.int .i64 a0_0,.string a0_1,.int .i64 a0_2,.int .i64 a0_3,.string a0_4],.bool a1] rfl (by (try simp only [zt,zu,zv]);first|done|rfl|(simp only [zw,zx];rfl)|(simp only [yr,ys,zV,zW];rfl)) ?_;(with_reducible refine (F6.calls k  a0_0 a0_1 a0_2 a0_3 a0_4 a1 t503 t504 t505 _ A5.out).mono ?_);rintro e w12 ⟨rfl,hb⟩;refine ⟨_,rfl,?_⟩;replace BK500:=zh (cD BK500.out (by (with_reducible repeat first|apply ze|apply zf|apply zg);exact BK500.out) hb);replace BK501:=zh (cD BK501.out (by (with_reducible repeat first|apply ze|apply zf|apply zg);exact BK501.out) hb);replace HB:=zh (zC (by repeat (with_reducible first|exact HB.out|apply za|apply zb|apply zc|refine zd ?_ GE500.out|refine zd ?_ GE501.out)) hb);(try clear hb);(try clear hb2);(try clear hk);(try clear hi);obtain ⟨hcz13_0,hcz13_1,hcz13_2,hfz13_0,hfz13_1,hfz13_2⟩:=cB3 BK501.out))
  refine bodyPost_ret (results_ct rfl _ _ gb501 28 #[.string t503,.string t504,.bool t505] (0,0) _ rfl (by (with_reducible repeat first|apply ze|apply zf|apply zg);refine zL (cs:=#[.string t503,.string t504,.bool false]) ?_ 2 _ rfl;(with_reducible repeat first|apply ze|apply zf|apply zg);refine zL (cs:=#[.string t503,.string (⟨#[]⟩ : ByteArray),.bool false]) ?_ 1 _ rfl;(with_reducible repeat first|apply ze|apply zf|apply zg);refine zL (cs:=#[.string (⟨#[]⟩ : ByteArray),.string (⟨#[]⟩ : ByteArray),.bool false]) ?_ 0 _ rfl;(with_reducible repeat first|apply ze|apply zf|apply zg);exact BK501.out) Tryd.underlying28 rfl (by kernel_rfl)) rfl ?_;exact ⟨by first|rfl|(simp [yt,yu] <;> rfl)|(simp [*,yt,yu] <;> rfl),by repeat (with_reducible first|exact HB.out|apply za|apply zb|apply zc|refine zd ?_ GE500.out|refine zd ?_ GE501.out)⟩
 replace c4:=yb.mpr c4;subst c4;have H1 : (some ((⟨#[]⟩ : ByteArray),(⟨#[]⟩ : ByteArray),false,1))=some (r1,r2,r3,r4):=by rw [if_neg (show ¬ (false=true) by decide)] at H;exact H
 clear H;have H:=H1;clear H1;simp only [Option.some.injEq,Prod.mk.injEq] at H;obtain ⟨rfl,rfl,rfl,rfl⟩:=H
 go_enter Tryd.func7,Tryd.ntmps7
 go_wp2_with (first|((with_reducible refine zK (N:=2) rfl ?_);refine zI ?hg (N:=2) ?hd (cs:=#[.int .i64 a0_0,.string a0_1,.int .i64 a0_2,.int .i64 a0_3,.string a0_4]) (t:=33) ?hr ?_;(case hd|hg => rfl);(case hr => go_simp <;> rfl);intro gb500 hg w14 hbox hb;have BK500:=zh (hbox);have hH_:=cH (by repeat (with_reducible first|exact HB.out|apply za|apply zb|apply zc)) hb hg;have GW500:=zh hH_.1;have GE500:=GW500;replace HB:=zh hH_.2;clear hb hbox hg hH_)|((with_reducible refine zK (N:=4) rfl ?_);refine zI ?hg (N:=4) ?hd (cs:=#[.string (⟨#[]⟩ : ByteArray),.string (⟨#[]⟩ : ByteArray),.bool false]) (t:=28) ?hr ?_;(case hd|hg => rfl);(case hr => go_simp <;> rfl);intro gb501 hg w15 hbox hb;have BK501:=zh (hbox);have hH_:=cH (by repeat (with_reducible first|exact HB.out|apply za|apply zb|apply zc|refine zd ?_ GE500.out)) hb hg;have GW501:=zh hH_.1;have GE501:=GW501;replace HB:=zh hH_.2;have NB500_501:=zh ((by rw [hg];exact yc (yi (g:=gb500) (o:=.cells #[.int .i64 a0_0,.string a0_1,.int .i64 a0_2,.int .i64 a0_3,.string a0_4] 33 (0,0)) (by (with_reducible repeat first|apply ze|apply zf|apply zg);exact BK500.out)) : gb500≠gb501));have NB501_500:=zh NB500_501.out.symm;replace BK500:=zh (cD BK500.out (by (with_reducible repeat first|apply ze|apply zf|apply zg);exact BK500.out) hb);clear hb hbox hg hH_;have hnb16:=NB500_501.out;have hnc16:=NB501_500.out;obtain ⟨hcz17_0,hcz17_1,hcz17_2,hcz17_3,hcz17_4,hfz17_0,hfz17_1,hfz17_2,hfz17_3,hfz17_4⟩:=cB5 BK500.out)|((with_reducible refine zJ (f:=13) rfl ?_);refine yj (some 7) rfl rfl Tryd.func13 (by kernel_rfl) rfl #[.agg #[.int .i64 a0_0,.string a0_1,.int .i64 a0_2,.int .i64 a0_3,.string a0_4]] rfl (by (try simp only [zt,zu,zv]);first|done|rfl|(simp only [zw,zx];rfl)|(simp only [yr,ys,zV,zW];rfl)) ?_;(with_reducible refine (Fo.calls k  a0_0 a0_1 a0_2 a0_3 a0_4 false _ A3.out).mono ?_);rintro e w18 ⟨rfl,hb⟩;refine ⟨_,rfl,?_⟩;replace BK500:=zh (cD BK500.out (by (with_reducible repeat first|apply ze|apply zf|apply zg);exact BK500.out) hb);replace BK501:=zh (cD BK501.out (by (with_reducible repeat first|apply ze|apply zf|apply zg);exact BK501.out) hb);replace HB:=zh (zC (by repeat (with_reducible first|exact HB.out|apply za|apply zb|apply zc|refine zd ?_ GE500.out|refine zd ?_ GE501.out)) hb);(try clear hb);(try clear hb2);(try clear hk);(try clear hi);obtain ⟨hcz19_0,hcz19_1,hcz19_2,hfz19_0,hfz19_1,hfz19_2⟩:=cB3 BK501.out))
 refine bodyPost_ret (results_ct rfl _ _ gb501 28 #[.string (⟨#[]⟩ : ByteArray),.string (⟨#[]⟩ : ByteArray),.bool false] (0,0) _ rfl (by (with_reducible repeat first|apply ze|apply zf|apply zg);refine zL (cs:=#[.string (⟨#[]⟩ : ByteArray),.string (⟨#[]⟩ : ByteArray),.bool false]) ?_ 2 _ rfl;(with_reducible repeat first|apply ze|apply zf|apply zg);refine zL (cs:=#[.string (⟨#[]⟩ : ByteArray),.string (⟨#[]⟩ : ByteArray),.bool false]) ?_ 1 _ rfl;(with_reducible repeat first|apply ze|apply zf|apply zg);refine zL (cs:=#[.string (⟨#[]⟩ : ByteArray),.string (⟨#[]⟩ : ByteArray),.bool false]) ?_ 0 _ rfl;(with_reducible repeat first|apply ze|apply zf|apply zg);exact BK501.out) Tryd.underlying28 rfl (by kernel_rfl)) rfl ?_;exact ⟨by first|rfl|(simp [yt,yu] <;> rfl)|(simp [*,yt,yu] <;> rfl),by repeat (with_reducible first|exact HB.out|apply za|apply zb|apply zc|refine zd ?_ GE500.out|refine zd ?_ GE501.out)⟩


def F0h.f (a0_0 : ByteArray) (a0_1 : ByteArray) (a0_2 : Bool) (a1_0 : ByteArray) (a1_1 : ByteArray) (a1_2 : Bool) : Option (Bool):=if a0_0.toList=a1_0.toList then (if a0_1.toList=a1_1.toList then (if (a0_2 != a1_2)=true then (some false) else (some true)) else (some false)) else (some false)
set_option maxHeartbeats 8000000 in
set_option maxRecDepth 100000 in
theorem F0h.calls (a0_0 : ByteArray) (a0_1 : ByteArray) (a0_2 : Bool) (a1_0 : ByteArray) (a1_1 : ByteArray) (a1_2 : Bool) (r : Bool) (w : World) (h : F0h.f a0_0 a0_1 a0_2 a1_0 a1_1 a1_2=some r) :
  Calls Tryd.prog 8 #[.agg #[.string a0_0,.string a0_1,.bool a0_2],.agg #[.string a1_0,.string a1_1,.bool a1_2]] w fun e w' => e = .returned (.bool r)∧Below w.heap.size w w':=by
 have hu28:=Tryd.underlying28;have HB:=zh (Below.refl w.heap.size w);have H : (if a0_0.toList=a1_0.toList then (if a0_1.toList=a1_1.toList then (if (a0_2 != a1_2)=true then (some false) else (some true)) else (some false)) else (some false))=some r:=h;clear h
 by_cases c3 : a0_0.toList=a1_0.toList
 ·
  rw [if_pos c3] at H
  have c3b0 : (a0_0.toList == a1_0.toList)=true:=ya.mpr c3;have c3b1 : (a0_0.toList != a1_0.toList)=false:=zX.mpr c3;clear c3
  by_cases c4 : a0_1.toList=a1_1.toList
  ·
   rw [if_pos c4] at H
   have c4b0 : (a0_1.toList == a1_1.toList)=true:=ya.mpr c4;have c4b1 : (a0_1.toList != a1_1.toList)=false:=zX.mpr c4;clear c4
   by_cases c5 : (a0_2 != a1_2)=true
   ·
    rw [if_pos c5] at H
    have c5b0 : (a0_2 != a1_2)=true:=c5;(try (have c5b1 : decide (a0_2=a1_2)=false:=by simpa using c5));(try (have c5b2 : (a0_2 == a1_2)=false:=by simpa using c5));(try (have c5b3 : ¬ (a0_2=a1_2):=by simpa using c5));clear c5;obtain rfl:=zU H
    go_enter Tryd.func8,Tryd.ntmps8
    go_wp2_with (first|((with_reducible refine zK (N:=2) rfl ?_);refine zI ?hg (N:=2) ?hd (cs:=#[.string a0_0,.string a0_1,.bool a0_2]) (t:=28) ?hr ?_;(case hd|hg => rfl);(case hr => go_simp <;> rfl);intro gb506 hg w6 hbox hb;have BK506:=zh (hbox);have hH_:=cH (by repeat (with_reducible first|exact HB.out|apply za|apply zb|apply zc)) hb hg;have GW506:=zh hH_.1;have GE506:=GW506;replace HB:=zh hH_.2;clear hb hbox hg hH_)|((with_reducible refine zK (N:=3) rfl ?_);refine zI ?hg (N:=3) ?hd (cs:=#[.string a1_0,.string a1_1,.bool a1_2]) (t:=28) ?hr ?_;(case hd|hg => rfl);(case hr => go_simp <;> rfl);intro gb507 hg w7 hbox hb;have BK507:=zh (hbox);have hH_:=cH (by repeat (with_reducible first|exact HB.out|apply za|apply zb|apply zc|refine zd ?_ GE506.out)) hb hg;have GW507:=zh hH_.1;have GE507:=GW507;replace HB:=zh hH_.2;have NB506_507:=zh ((by rw [hg];exact yc (yi (g:=gb506) (o:=.cells #[.string a0_0,.string a0_1,.bool a0_2] 28 (0,0)) (by (with_reducible repeat first|apply ze|apply zf|apply zg);exact BK506.out)) : gb506≠gb507));have NB507_506:=zh NB506_507.out.symm;replace BK506:=zh (cD BK506.out (by (with_reducible repeat first|apply ze|apply zf|apply zg);exact BK506.out) hb);clear hb hbox hg hH_;have hnb8:=NB506_507.out;have hnc8:=NB507_506.out;obtain ⟨hcz9_0,hcz9_1,hcz9_2,hfz9_0,hfz9_1,hfz9_2⟩:=cB3 BK506.out;obtain ⟨hcz10_0,hcz10_1,hcz10_2,hfz10_0,hfz10_1,hfz10_2⟩:=cB3 BK507.out))
    go_ret
    exact ⟨by first|rfl|(simp [yt,yu] <;> rfl)|(simp [*,yt,yu] <;> rfl),by repeat (with_reducible first|exact HB.out|apply za|apply zb|apply zc|refine zd ?_ GE506.out|refine zd ?_ GE507.out)⟩
   rw [if_neg c5] at H;have c5b0 : (a0_2 != a1_2)=false:=by simpa using c5
   (try (have c5b1 : decide (a0_2=a1_2)=true:=by simpa using c5));(try (have c5b2 : (a0_2 == a1_2)=true:=by simpa using c5));clear c5;obtain rfl:=zU H
   go_enter Tryd.func8,Tryd.ntmps8
   go_wp2_with (first|((with_reducible refine zK (N:=2) rfl ?_);refine zI ?hg (N:=2) ?hd (cs:=#[.string a0_0,.string a0_1,.bool a0_2]) (t:=28) ?hr ?_;(case hd|hg => rfl);(case hr => go_simp <;> rfl);intro gb506 hg w11 hbox hb;have BK506:=zh (hbox);have hH_:=cH (by repeat (with_reducible first|exact HB.out|apply za|apply zb|apply zc)) hb hg;have GW506:=zh hH_.1;have GE506:=GW506;replace HB:=zh hH_.2;clear hb hbox hg hH_)|((with_reducible refine zK (N:=3) rfl ?_);refine zI ?hg (N:=3) ?hd (cs:=#[.string a1_0,.string a1_1,.bool a1_2]) (t:=28) ?hr ?_;(case hd|hg => rfl);(case hr => go_simp <;> rfl);intro gb507 hg w12 hbox hb;have BK507:=zh (hbox);have hH_:=cH (by repeat (with_reducible first|exact HB.out|apply za|apply zb|apply zc|refine zd ?_ GE506.out)) hb hg;have GW507:=zh hH_.1;have GE507:=GW507;replace HB:=zh hH_.2;have NB506_507:=zh ((by rw [hg];exact yc (yi (g:=gb506) (o:=.cells #[.string a0_0,.string a0_1,.bool a0_2] 28 (0,0)) (by (with_reducible repeat first|apply ze|apply zf|apply zg);exact BK506.out)) : gb506≠gb507));have NB507_506:=zh NB506_507.out.symm;replace BK506:=zh (cD BK506.out (by (with_reducible repeat first|apply ze|apply zf|apply zg);exact BK506.out) hb);clear hb hbox hg hH_;have hnb13:=NB506_507.out;have hnc13:=NB507_506.out;obtain ⟨hcz14_0,hcz14_1,hcz14_2,hfz14_0,hfz14_1,hfz14_2⟩:=cB3 BK506.out;obtain ⟨hcz15_0,hcz15_1,hcz15_2,hfz15_0,hfz15_1,hfz15_2⟩:=cB3 BK507.out))
   go_ret
   exact ⟨by first|rfl|(simp [yt,yu] <;> rfl)|(simp [*,yt,yu] <;> rfl),by repeat (with_reducible first|exact HB.out|apply za|apply zb|apply zc|refine zd ?_ GE506.out|refine zd ?_ GE507.out)⟩
  rw [if_neg c4] at H;have c4b0 : (a0_1.toList == a1_1.toList)=false:=zY.mpr c4;have c4b1 : (a0_1.toList != a1_1.toList)=true:=zZ.mpr c4;obtain rfl:=zU H
  go_enter Tryd.func8,Tryd.ntmps8
  go_wp2_with (first|((with_reducible refine zK (N:=2) rfl ?_);refine zI ?hg (N:=2) ?hd (cs:=#[.string a0_0,.string a0_1,.bool a0_2]) (t:=28) ?hr ?_;(case hd|hg => rfl);(case hr => go_simp <;> rfl);intro gb506 hg w16 hbox hb;have BK506:=zh (hbox);have hH_:=cH (by repeat (with_reducible first|exact HB.out|apply za|apply zb|apply zc)) hb hg;have GW506:=zh hH_.1;have GE506:=GW506;replace HB:=zh hH_.2;clear hb hbox hg hH_)|((with_reducible refine zK (N:=3) rfl ?_);refine zI ?hg (N:=3) ?hd (cs:=#[.string a1_0,.string a1_1,.bool a1_2]) (t:=28) ?hr ?_;(case hd|hg => rfl);(case hr => go_simp <;> rfl);intro gb507 hg w17 hbox hb;have BK507:=zh (hbox);have hH_:=cH (by repeat (with_reducible first|exact HB.out|apply za|apply zb|apply zc|refine zd ?_ GE506.out)) hb hg;have GW507:=zh hH_.1;have GE507:=GW507;replace HB:=zh hH_.2;have NB506_507:=zh ((by rw [hg];exact yc (yi (g:=gb506) (o:=.cells #[.string a0_0,.string a0_1,.bool a0_2] 28 (0,0)) (by (with_reducible repeat first|apply ze|apply zf|apply zg);exact BK506.out)) : gb506≠gb507));have NB507_506:=zh NB506_507.out.symm;replace BK506:=zh (cD BK506.out (by (with_reducible repeat first|apply ze|apply zf|apply zg);exact BK506.out) hb);clear hb hbox hg hH_;have hnb18:=NB506_507.out;have hnc18:=NB507_506.out;obtain ⟨hcz19_0,hcz19_1,hcz19_2,hfz19_0,hfz19_1,hfz19_2⟩:=cB3 BK506.out;obtain ⟨hcz20_0,hcz20_1,hcz20_2,hfz20_0,hfz20_1,hfz20_2⟩:=cB3 BK507.out))
  go_ret
  exact ⟨by first|rfl|(simp [yt,yu] <;> rfl)|(simp [*,yt,yu] <;> rfl),by repeat (with_reducible first|exact HB.out|apply za|apply zb|apply zc|refine zd ?_ GE506.out|refine zd ?_ GE507.out)⟩
 rw [if_neg c3] at H;have c3b0 : (a0_0.toList == a1_0.toList)=false:=zY.mpr c3;have c3b1 : (a0_0.toList != a1_0.toList)=true:=zZ.mpr c3;obtain rfl:=zU H
 go_enter Tryd.func8,Tryd.ntmps8
 go_wp2_with (first|((with_reducible refine zK (N:=2) rfl ?_);refine zI ?hg (N:=2) ?hd (cs:=#[.string a0_0,.string a0_1,.bool a0_2]) (t:=28) ?hr ?_;(case hd|hg => rfl);(case hr => go_simp <;> rfl);intro gb506 hg w21 hbox hb;have BK506:=zh (hbox);have hH_:=cH (by repeat (with_reducible first|exact HB.out|apply za|apply zb|apply zc)) hb hg;have GW506:=zh hH_.1;have GE506:=GW506;replace HB:=zh hH_.2;clear hb hbox hg hH_)|((with_reducible refine zK (N:=3) rfl ?_);refine zI ?hg (N:=3) ?hd (cs:=#[.string a1_0,.string a1_1,.bool a1_2]) (t:=28) ?hr ?_;(case hd|hg => rfl);(case hr => go_simp <;> rfl);intro gb507 hg w22 hbox hb;have BK507:=zh (hbox);have hH_:=cH (by repeat (with_reducible first|exact HB.out|apply za|apply zb|apply zc|refine zd ?_ GE506.out)) hb hg;have GW507:=zh hH_.1;have GE507:=GW507;replace HB:=zh hH_.2;have NB506_507:=zh ((by rw [hg];exact yc (yi (g:=gb506) (o:=.cells #[.string a0_0,.string a0_1,.bool a0_2] 28 (0,0)) (by (with_reducible repeat first|apply ze|apply zf|apply zg);exact BK506.out)) : gb506≠gb507));have NB507_506:=zh NB506_507.out.symm;replace BK506:=zh (cD BK506.out (by (with_reducible repeat first|apply ze|apply zf|apply zg);exact BK506.out) hb);clear hb hbox hg hH_;have hnb23:=NB506_507.out;have hnc23:=NB507_506.out;obtain ⟨hcz24_0,hcz24_1,hcz24_2,hfz24_0,hfz24_1,hfz24_2⟩:=cB3 BK506.out;obtain ⟨hcz25_0,hcz25_1,hcz25_2,hfz25_0,hfz25_1,hfz25_2⟩:=cB3 BK507.out))
 go_ret
 exact ⟨by first|rfl|(simp [yt,yu] <;> rfl)|(simp [*,yt,yu] <;> rfl),by repeat (with_reducible first|exact HB.out|apply za|apply zb|apply zc|refine zd ?_ GE506.out|refine zd ?_ GE507.out)⟩


def F0g.f (k : Nat) (a0_0 : Int) (a0_1 : ByteArray) (a0_2 : Int) (a0_3 : Int) (a0_4 : ByteArray) (a1 : Bool) : Option (Bool):=(F0p.f a0_0 a0_1 a0_2 a0_3 a0_4 1048576).bind fun t509 => (if t509<0 then (some true) else ((F0c.f a0_0 a0_1 a0_2 a0_3 a0_4).bind fun bt510 => ((F0a.f k bt510.1 bt510.2.1 bt510.2.2.1 bt510.2.2.2.1 bt510.2.2.2.2 a1).bind fun bt515 => ((F0c.f a0_0 a0_1 a0_2 a0_3 a0_4).bind fun bt520 => ((F06.f k bt520.1 bt520.2.1 bt520.2.2.1 bt520.2.2.2.1 bt520.2.2.2.2 a1).bind fun bt525 => ((F0h.f bt525.1 bt525.2.1 bt525.2.2.1 bt515.1 bt515.2.1 bt515.2.2.1).bind fun t530 => (if t530=true then (if bt525.2.2.2=bt515.2.2.2 then (some true) else (some false)) else (some false))))))))
theorem F0g.mono : ∀ a0 a1 a2 a3 a4 a5 k,LeO (F0g.f k a0 a1 a2 a3 a4 a5) (F0g.f (k + 1) a0 a1 a2 a3 a4 a5):=by
 intro a0 a1 a2 a3 a4 a5 k;unfold F0g.f
 repeat' first|(with_reducible first|exact F0a.mono _ _ _ _ _ _ _|exact F06.mono _ _ _ _ _ _ _|exact zQ _|exact zN _|refine zP ?_ ?_|refine zO ?_ (fun _ => ?_))|refine zP ?_ ?_|refine zO ?_ (fun _ => ?_)
set_option maxHeartbeats 8000000 in
set_option maxRecDepth 100000 in
theorem F0g.calls (k : Nat) (a0_0 : Int) (a0_1 : ByteArray) (a0_2 : Int) (a0_3 : Int) (a0_4 : ByteArray) (a1 : Bool) (r : Bool) (w : World) (h : F0g.f k a0_0 a0_1 a0_2 a0_3 a0_4 a1=some r) (hr_ : r=true) :
  Calls Tryd.prog 3 #[.agg #[.int .i64 a0_0,.string a0_1,.int .i64 a0_2,.int .i64 a0_3,.string a0_4],.bool a1] w fun e w' => e = .returned (.bool r)∧Below w.heap.size w w':=by
 have hu25:=Tryd.underlying25;have hu28:=Tryd.underlying28;have HB:=zh (Below.refl w.heap.size w);have H : ((F0p.f a0_0 a0_1 a0_2 a0_3 a0_4 1048576).bind fun t509 => (if t509<0 then (some true) else ((F0c.f a0_0 a0_1 a0_2 a0_3 a0_4).bind fun bt510 => ((F0a.f k bt510.1 bt510.2.1 bt510.2.2.1 bt510.2.2.2.1 bt510.2.2.2.2 a1).bind fun bt515 => ((F0c.f a0_0 a0_1 a0_2 a0_3 a0_4).bind fun bt520 => ((F06.f k bt520.1 bt520.2.1 bt520.2.2.1 bt520.2.2.2.1 bt520.2.2.2.2 a1).bind fun bt525 => ((F0h.f bt525.1 bt525.2.1 bt525.2.2.1 bt515.1 bt515.2.1 bt515.2.2.1).bind fun t530 => (if t530=true then (if bt525.2.2.2=bt515.2.2.2 then (some true) else (some false)) else (some false)))))))))=some r:=h;clear h;replace H:=zT.mp H;obtain ⟨t509,A30,H⟩:=H;replace H : (if t509<0 then (some true) else ((F0c.f a0_0 a0_1 a0_2 a0_3 a0_4).bind fun bt510 => ((F0a.f k bt510.1 bt510.2.1 bt510.2.2.1 bt510.2.2.2.1 bt510.2.2.2.2 a1).bind fun bt515 => ((F0c.f a0_0 a0_1 a0_2 a0_3 a0_4).bind fun bt520 => ((F06.f k bt520.1 bt520.2.1 bt520.2.2.1 bt520.2.2.2.1 bt520.2.2.2.2 a1).bind fun bt525 => ((F0h.f bt525.1 bt525.2.1 bt525.2.2.1 bt515.1 bt515.2.1 bt515.2.2.1).bind fun t530 => (if t530=true then (if bt525.2.2.2=bt515.2.2.2 then (some true) else (some false)) else (some false))))))))=some r:=H;have A3:=zh A30;clear A30
 by_cases c4 : t509<0
 ·
  rw [if_pos c4] at H
  have c4b0 : decide (t509<0)=true:=decide_eq_true c4;clear c4;obtain rfl:=zU H
  go_enter Tryd.func3,Tryd.ntmps3
  go_wp2_with (first|((with_reducible refine zK (N:=2) rfl ?_);refine zI ?hg (N:=2) ?hd (cs:=#[.int .i64 a0_0,.string a0_1,.int .i64 a0_2,.int .i64 a0_3,.string a0_4]) (t:=25) ?hr ?_;(case hd|hg => rfl);(case hr => go_simp <;> rfl);intro gb508 hg w5 hbox hb;have BK508:=zh (hbox);have hH_:=cH (by repeat (with_reducible first|exact HB.out|apply za|apply zb|apply zc)) hb hg;have GW508:=zh hH_.1;have GE508:=GW508;replace HB:=zh hH_.2;clear hb hbox hg hH_;obtain ⟨hcz6_0,hcz6_1,hcz6_2,hcz6_3,hcz6_4,hfz6_0,hfz6_1,hfz6_2,hfz6_3,hfz6_4⟩:=cB5 BK508.out)|((with_reducible refine zJ (f:=4) rfl ?_);refine yj (some 12) rfl rfl Tryd.func4 (by kernel_rfl) rfl #[.agg #[.int .i64 a0_0,.string a0_1,.int .i64 a0_2,.int .i64 a0_3,.string a0_4],.int .i64 1048576] rfl (by (try simp only [zt,zu,zv]);first|done|rfl|(simp only [zw,zx];rfl)|(simp only [yr,ys,zV,zW];rfl)) ?_;(with_reducible refine (F0p.calls  a0_0 a0_1 a0_2 a0_3 a0_4 1048576 t509 _ A3.out).mono ?_);rintro e w7 ⟨rfl,hb⟩;refine ⟨_,rfl,?_⟩;replace BK508:=zh (cD BK508.out (by (with_reducible repeat first|apply ze|apply zf|apply zg);exact BK508.out) hb);replace HB:=zh (zC (by repeat (with_reducible first|exact HB.out|apply za|apply zb|apply zc|refine zd ?_ GE508.out)) hb);(try clear hb);(try clear hb2);(try clear hk);(try clear hi)))
  go_ret
  exact ⟨by first|rfl|(simp [yt,yu] <;> rfl)|(simp [*,yt,yu] <;> rfl),by repeat (with_reducible first|exact HB.out|apply za|apply zb|apply zc|refine zd ?_ GE508.out)⟩
 rw [if_neg c4] at H;have c4b0 : decide (t509<0)=false:=decide_eq_false c4;clear c4;replace H:=zT.mp H;obtain ⟨⟨t510,t511,t512,t513,t514⟩,A80,H⟩:=H;replace H : ((F0a.f k t510 t511 t512 t513 t514 a1).bind fun bt515 => ((F0c.f a0_0 a0_1 a0_2 a0_3 a0_4).bind fun bt520 => ((F06.f k bt520.1 bt520.2.1 bt520.2.2.1 bt520.2.2.2.1 bt520.2.2.2.2 a1).bind fun bt525 => ((F0h.f bt525.1 bt525.2.1 bt525.2.2.1 bt515.1 bt515.2.1 bt515.2.2.1).bind fun t530 => (if t530=true then (if bt525.2.2.2=bt515.2.2.2 then (some true) else (some false)) else (some false))))))=some r:=H;have A8:=zh A80;clear A80;replace H:=zT.mp H;obtain ⟨⟨t515,t516,t517,t518⟩,A90,H⟩:=H;replace H : ((F0c.f a0_0 a0_1 a0_2 a0_3 a0_4).bind fun bt520 => ((F06.f k bt520.1 bt520.2.1 bt520.2.2.1 bt520.2.2.2.1 bt520.2.2.2.2 a1).bind fun bt525 => ((F0h.f bt525.1 bt525.2.1 bt525.2.2.1 t515 t516 t517).bind fun t530 => (if t530=true then (if bt525.2.2.2=t518 then (some true) else (some false)) else (some false)))))=some r:=H;have A9:=zh A90;clear A90;replace H:=zT.mp H;obtain ⟨⟨t520,t521,t522,t523,t524⟩,A100,H⟩:=H;replace H : ((F06.f k t520 t521 t522 t523 t524 a1).bind fun bt525 => ((F0h.f bt525.1 bt525.2.1 bt525.2.2.1 t515 t516 t517).bind fun t530 => (if t530=true then (if bt525.2.2.2=t518 then (some true) else (some false)) else (some false))))=some r:=H;have A10:=zh A100;clear A100;replace H:=zT.mp H;obtain ⟨⟨t525,t526,t527,t528⟩,A110,H⟩:=H;replace H : ((F0h.f t525 t526 t527 t515 t516 t517).bind fun t530 => (if t530=true then (if t528=t518 then (some true) else (some false)) else (some false)))=some r:=H;have A11:=zh A110;clear A110;replace H:=zT.mp H;obtain ⟨t530,A120,H⟩:=H;replace H : (if t530=true then (if t528=t518 then (some true) else (some false)) else (some false))=some r:=H;have A12:=zh A120;clear A120
 by_cases c13 : t530=true
 ·
  subst c13
  have H1 : (if t528=t518 then (some true) else (some false))=some r:=by rw [if_pos rfl] at H;exact H
  clear H;have H:=H1;clear H1
  by_cases c14 : t528=t518
  ·
   rw [if_pos c14] at H
   have c14b0 : (t528 == t518)=true:=ya.mpr c14;have c14b1 : (t528 != t518)=false:=zX.mpr c14;clear c14;obtain rfl:=zU H
   go_enter Tryd.func3,Tryd.ntmps3
   go_wp2_with (first|((with_reducible refine zK (N:=2) rfl ?_);refine zI ?hg (N:=2) ?hd (cs:=#[.int .i64 a0_0,.string a0_1,.int .i64 a0_2,.int .i64 a0_3,.string a0_4]) (t:=25) ?hr ?_;(case hd|hg => rfl);(case hr => go_simp <;> rfl);intro gb508 hg w15 hbox hb;have BK508:=zh (hbox);have hH_:=cH (by repeat (with_reducible first|exact HB.out|apply za|apply zb|apply zc)) hb hg;have GW508:=zh hH_.1;have GE508:=GW508;replace HB:=zh hH_.2;clear hb hbox hg hH_;obtain ⟨hcz16_0,hcz16_1,hcz16_2,hcz16_3,hcz16_4,hfz16_0,hfz16_1,hfz16_2,hfz16_3,hfz16_4⟩:=cB5 BK508.out)|((with_reducible refine zJ (f:=4) rfl ?_);refine yj (some 12) rfl rfl Tryd.func4 (by kernel_rfl) rfl #[.agg #[.int .i64 a0_0,.string a0_1,.int .i64 a0_2,.int .i64 a0_3,.string a0_4],.int .i64 1048576] rfl (by (try simp only [zt,zu,zv]);first|done|rfl|(simp only [zw,zx];rfl)|(simp only [yr,ys,zV,zW];rfl)) ?_;(with_reducible refine (F0p.calls  a0_0 a0_1 a0_2 a0_3 a0_4 1048576 t509 _ A3.out).mono ?_);rintro e w17 ⟨rfl,hb⟩;refine ⟨_,rfl,?_⟩;replace BK508:=zh (cD BK508.out (by (with_reducible repeat first|apply ze|apply zf|apply zg);exact BK508.out) hb);replace HB:=zh (zC (by repeat (with_reducible first|exact HB.out|apply za|apply zb|apply zc|refine zd ?_ GE508.out)) hb);(try clear hb);(try clear hb2);(try clear hk);(try clear hi);obtain ⟨hcz18_0,hcz18_1,hcz18_2,hcz18_3,hcz18_4,hfz18_0,hfz18_1,hfz18_2,hfz18_3,hfz18_4⟩:=cB5 BK508.out)|((with_reducible refine zJ (f:=6) rfl ?_);refine yj (some 17) rfl rfl Tryd.func6 (by kernel_rfl) rfl #[.agg #[.int .i64 a0_0,.string a0_1,.int .i64 a0_2,.int .i64 a0_3,.string a0_4]] rfl (by (try simp only [zt,zu,zv]);first|done|rfl|(simp only [zw,zx];rfl)|(simp only [yr,ys,zV,zW];rfl)) ?_;(with_reducible refine (F0c.calls  a0_0 a0_1 a0_2 a0_3 a0_4 t510 t511 t512 t513 t514 _ A8.out).mono ?_);rintro e w19 ⟨rfl,hb⟩;refine ⟨_,rfl,?_⟩;replace BK508:=zh (cD BK508.out (by (with_reducible repeat first|apply ze|apply zf|apply zg);exact BK508.out) hb);replace HB:=zh (zC (by repeat (with_reducible first|exact HB.out|apply za|apply zb|apply zc|refine zd ?_ GE508.out)) hb);(try clear hb);(try clear hb2);(try clear hk);(try clear hi))|((with_reducible refine zJ (f:=5) rfl ?_);refine yj (some 19) rfl rfl Tryd.func5 (by kernel_rfl) rfl #[.agg #[.int .i64 t510,.string t511,.int .i64 t512,.int .i64 t513,.string t514],.bool a1] rfl (by (try simp only [zt,zu,zv]);first|done|rfl|(simp only [zw,zx];rfl)|(simp only [yr,ys,zV,zW];rfl)) ?_;(with_reducible refine (F0a.calls k  t510 t511 t512 t513 t514 a1 t515 t516 t517 t518 _ A9.out).mono ?_);rintro e w20 ⟨rfl,hb⟩;refine ⟨_,rfl,?_⟩;replace BK508:=zh (cD BK508.out (by (with_reducible repeat first|apply ze|apply zf|apply zg);exact BK508.out) hb);replace HB:=zh (zC (by repeat (with_reducible first|exact HB.out|apply za|apply zb|apply zc|refine zd ?_ GE508.out)) hb);(try clear hb);(try clear hb2);(try clear hk);(try clear hi))|((with_reducible refine zK (N:=6) rfl ?_);refine zI ?hg (N:=6) ?hd (cs:=#[.string (⟨#[]⟩ : ByteArray),.string (⟨#[]⟩ : ByteArray),.bool false]) (t:=28) ?hr ?_;(case hd|hg => rfl);(case hr => go_simp <;> rfl);intro gb519 hg w21 hbox hb;have BK519:=zh (hbox);have hH_:=cH (by repeat (with_reducible first|exact HB.out|apply za|apply zb|apply zc|refine zd ?_ GE508.out)) hb hg;have GW519:=zh hH_.1;have GE519:=GW519;replace HB:=zh hH_.2;have NB508_519:=zh ((by rw [hg];exact yc (yi (g:=gb508) (o:=.cells #[.int .i64 a0_0,.string a0_1,.int .i64 a0_2,.int .i64 a0_3,.string a0_4] 25 (0,0)) (by (with_reducible repeat first|apply ze|apply zf|apply zg);exact BK508.out)) : gb508≠gb519));have NB519_508:=zh NB508_519.out.symm;replace BK508:=zh (cD BK508.out (by (with_reducible repeat first|apply ze|apply zf|apply zg);exact BK508.out) hb);clear hb hbox hg hH_;have hnb22:=NB519_508.out;have hnc22:=NB508_519.out;obtain ⟨hcz23_0,hcz23_1,hcz23_2,hfz23_0,hfz23_1,hfz23_2⟩:=cB3 BK519.out;obtain ⟨hcz24_0,hcz24_1,hcz24_2,hcz24_3,hcz24_4,hfz24_0,hfz24_1,hfz24_2,hfz24_3,hfz24_4⟩:=cB5 BK508.out)|((with_reducible refine zJ (f:=6) rfl ?_);refine yj (some 24) rfl rfl Tryd.func6 (by kernel_rfl) rfl #[.agg #[.int .i64 a0_0,.string a0_1,.int .i64 a0_2,.int .i64 a0_3,.string a0_4]] rfl (by (try simp only [zt,zu,zv]);first|done|rfl|(simp only [zw,zx];rfl)|(simp only [yr,ys,zV,zW];rfl)) ?_;(with_reducible refine (F0c.calls  a0_0 a0_1 a0_2 a0_3 a0_4 t520 t521 t522 t523 t524 _ A10.out).mono ?_);rintro e w25 ⟨rfl,hb⟩;refine ⟨_,rfl,?_⟩;replace BK508:=zh (cD BK508.out (by (with_reducible repeat first|apply ze|apply zf|apply zg);refine cS3 ?_ NB508_519.out;(with_reducible repeat first|apply ze|apply zf|apply zg);exact BK508.out) hb);replace BK519:=zh (zD (g:=gb519) (o:=.cells #[.string t515,.string t516,.bool t517] 28 (0,0)) (by (with_reducible repeat first|apply ze|apply zf|apply zg);refine zL (cs:=#[.string t515,.string t516,.bool false]) ?_ 2 _ rfl;(with_reducible repeat first|apply ze|apply zf|apply zg);refine zL (cs:=#[.string t515,.string (⟨#[]⟩ : ByteArray),.bool false]) ?_ 1 _ rfl;(with_reducible repeat first|apply ze|apply zf|apply zg);refine zL (cs:=#[.string (⟨#[]⟩ : ByteArray),.string (⟨#[]⟩ : ByteArray),.bool false]) ?_ 0 _ rfl;(with_reducible repeat first|apply ze|apply zf|apply zg);exact BK519.out) hb);replace HB:=zh (zC (by repeat (with_reducible first|exact HB.out|apply za|apply zb|apply zc|refine zd ?_ GE508.out|refine zd ?_ GE519.out)) hb);(try clear hb);(try clear hb2);(try clear hk);(try clear hi))|((with_reducible refine zJ (f:=7) rfl ?_);refine yj (some 26) rfl rfl Tryd.func7 (by kernel_rfl) rfl #[.agg #[.int .i64 t520,.string t521,.int .i64 t522,.int .i64 t523,.string t524],.bool a1] rfl (by (try simp only [zt,zu,zv]);first|done|rfl|(simp only [zw,zx];rfl)|(simp only [yr,ys,zV,zW];rfl)) ?_;(with_reducible refine (F06.calls k  t520 t521 t522 t523 t524 a1 t525 t526 t527 t528 _ A11.out).mono ?_);rintro e w26 ⟨rfl,hb⟩;refine ⟨_,rfl,?_⟩;replace BK508:=zh (cD BK508.out (by (with_reducible repeat first|apply ze|apply zf|apply zg);exact BK508.out) hb);replace BK519:=zh (cD BK519.out (by (with_reducible repeat first|apply ze|apply zf|apply zg);exact BK519.out) hb);replace HB:=zh (zC (by repeat (with_reducible first|exact HB.out|apply za|apply zb|apply zc|refine zd ?_ GE508.out|refine zd ?_ GE519.out)) hb);(try clear hb);(try clear hb2);(try clear hk);(try clear hi))|((with_reducible refine zK (N:=8) rfl ?_);refine zI ?hg (N:=8) ?hd (cs:=#[.string (⟨#[]⟩ : ByteArray),.string (⟨#[]⟩ : ByteArray),.bool false]) (t:=28) ?hr ?_;(case hd|hg => rfl);(case hr => go_simp <;> rfl);intro gb529 hg w27 hbox hb;have BK529:=zh (hbox);have hH_:=cH (by repeat (with_reducible first|exact HB.out|apply za|apply zb|apply zc|refine zd ?_ GE508.out|refine zd ?_ GE519.out)) hb hg;have GW529:=zh hH_.1;have GE529:=GW529;replace HB:=zh hH_.2;have NB508_529:=zh ((by rw [hg];exact yc (yi (g:=gb508) (o:=.cells #[.int .i64 a0_0,.string a0_1,.int .i64 a0_2,.int .i64 a0_3,.string a0_4] 25 (0,0)) (by (with_reducible repeat first|apply ze|apply zf|apply zg);exact BK508.out)) : gb508≠gb529));have NB529_508:=zh NB508_529.out.symm;replace BK508:=zh (cD BK508.out (by (with_reducible repeat first|apply ze|apply zf|apply zg);exact BK508.out) hb);have NB519_529:=zh ((by rw [hg];exact yc (yi (g:=gb519) (o:=.cells #[.string t515,.string t516,.bool t517] 28 (0,0)) (by (with_reducible repeat first|apply ze|apply zf|apply zg);exact BK519.out)) : gb519≠gb529));have NB529_519:=zh NB519_529.out.symm;replace BK519:=zh (cD BK519.out (by (with_reducible repeat first|apply ze|apply zf|apply zg);exact BK519.out) hb);clear hb hbox hg hH_;have hnb28:=NB529_508.out;have hnc28:=NB508_529.out;have hnb29:=NB529_519.out;have hnc29:=NB519_529.out;obtain ⟨hcz30_0,hcz30_1,hcz30_2,hfz30_0,hfz30_1,hfz30_2⟩:=cB3 BK529.out;obtain ⟨hcz31_0,hcz31_1,hcz31_2,hfz31_0,hfz31_1,hfz31_2⟩:=cB3 BK519.out)|((with_reducible refine zJ (f:=8) rfl ?_);refine yj (some 31) rfl rfl Tryd.func8 (by kernel_rfl) rfl #[.agg #[.string t525,.string t526,.bool t527],.agg #[.string t515,.string t516,.bool t517]] rfl (by (try simp only [zt,zu,zv]);first|done|rfl|(simp only [zw,zx];rfl)|(simp only [yr,ys,zV,zW];rfl)) ?_;(with_reducible refine (F0h.calls  t525 t526 t527 t515 t516 t517 true _ A12.out).mono ?_);rintro e w32 ⟨rfl,hb⟩;refine ⟨_,rfl,?_⟩;replace BK508:=zh (cD BK508.out (by (with_reducible repeat first|apply ze|apply zf|apply zg);refine cS3 ?_ NB508_529.out;(with_reducible repeat first|apply ze|apply zf|apply zg);exact BK508.out) hb);replace BK519:=zh (cD BK519.out (by (with_reducible repeat first|apply ze|apply zf|apply zg);refine cS3 ?_ NB519_529.out;(with_reducible repeat first|apply ze|apply zf|apply zg);exact BK519.out) hb);replace BK529:=zh (zD (g:=gb529) (o:=.cells #[.string t525,.string t526,.bool t527] 28 (0,0)) (by (with_reducible repeat first|apply ze|apply zf|apply zg);refine zL (cs:=#[.string t525,.string t526,.bool false]) ?_ 2 _ rfl;(with_reducible repeat first|apply ze|apply zf|apply zg);refine zL (cs:=#[.string t525,.string (⟨#[]⟩ : ByteArray),.bool false]) ?_ 1 _ rfl;(with_reducible repeat first|apply ze|apply zf|apply zg);refine zL (cs:=#[.string (⟨#[]⟩ : ByteArray),.string (⟨#[]⟩ : ByteArray),.bool false]) ?_ 0 _ rfl;(with_reducible repeat first|apply ze|apply zf|apply zg);exact BK529.out) hb);replace HB:=zh (zC (by repeat (with_reducible first|exact HB.out|apply za|apply zb|apply zc|refine zd ?_ GE508.out|refine zd ?_ GE519.out|refine zd ?_ GE529.out)) hb);(try clear hb);(try clear hb2);(try clear hk);(try clear hi)))
   go_ret
   exact ⟨by first|rfl|(simp [yt,yu] <;> rfl)|(simp [*,yt,yu] <;> rfl),by repeat (with_reducible first|exact HB.out|apply za|apply zb|apply zc|refine zd ?_ GE508.out|refine zd ?_ GE519.out|refine zd ?_ GE529.out)⟩
  rw [if_neg c14] at H;have c14b0 : (t528 == t518)=false:=zY.mpr c14;have c14b1 : (t528 != t518)=true:=zZ.mpr c14;exact absurd (zU H) (by rw [hr_];decide)
 replace c13:=yb.mpr c13;subst c13;have H1 : (some false)=some r:=by rw [if_neg (show ¬ (false=true) by decide)] at H;exact H
 clear H;have H:=H1;clear H1;exact absurd (zU H) (by rw [hr_];decide)

end Go.Proofs.YthjgfjlogilleabDoor.Q
end
section
namespace Go.Proofs.YthjgfjlogilleabDoorW.PrintOpen
open Go.RowKit Go.ChangeShapes Go.WideShapes Go.ChangeAt Go.Proofs.YthjgfjlogilleabDoorW.PrintWords
def Opens {α : Type} (P : Program) (d : Kd α) (t : TypeId) (good : α→Prop) : Prop :=
 ∀ (H : Type) (enc : TypeId×Value→H) (w : World) (base : Nat) (spare : Nat→Bool) (held : Bool) (fuel : Nat) (cs : List Value) (x : DataW H×List MemPlace),
  DataW.trod enc P w base spare held fuel t cs=some x → ∃ a,d.K w a cs∧good a
variable {P : Program}
theorem opens_int {t : TypeId} {k : IntKind} (ht : P.underlying t=some (.int k)) : Opens P (Kd.int k) t (fun n => (Lit.int k n).wf=true):=by
 intro H enc w base spare held fuel cs x h;obtain ⟨n,hcs,_,hw⟩:=DataW.trod_int ht h;exact ⟨n,hcs,hw⟩
theorem opens_string {t : TypeId} (ht : P.underlying t=some .string) : Opens P Kd.string t (fun s => s.size≤9223372036854775807):=by
 intro H enc w base spare held fuel cs x h;obtain ⟨s,hcs,_,hs⟩:=DataW.trod_string ht h;exact ⟨s,hcs,by unfold maxLen at hs;exact hs⟩
def OpensF {α : Type} (P : Program) (d : Kd α) (fs : List Field) (off : Nat) (good : α→Prop) : Prop :=
 ∀ (H : Type) (enc : TypeId×Value→H) (w : World) (base : Nat) (spare : Nat→Bool) (held : Bool) (fuel : Nat) (cs : List Value),off + d.sz≤cs.length →
  (∀ f ∈ fs,∃ x,DataW.trod enc P w base spare held fuel f.type ((cs.drop f.offset).take (P.cellsOf f.type))=some x) → ∃ a,d.K w a ((cs.drop off).take d.sz)∧good a
theorem opensF_one {α : Type} {d : Kd α} {f : Field} {off : Nat} {g : α→Prop} (ho : f.offset=off) (hc : P.cellsOf f.type=d.sz) (h : Opens P d f.type g) : OpensF P d [f] off g:=by
 intro H enc w base spare held fuel cs _ hf;obtain ⟨x,hx⟩:=hf f (by simp);obtain ⟨a,hk,hg⟩:=h H enc w base spare held fuel _ x hx;rw [ho,hc] at hk;exact ⟨a,hk,hg⟩
theorem opensF_cons {α β : Type} {d : Kd α} {d' : Kd β} {f : Field} {fs : List Field} {off : Nat} {g : α→Prop} {g' : β→Prop} (ho : f.offset=off) (hc : P.cellsOf f.type=d.sz) (h : Opens P d f.type g) (h' : OpensF P d' fs (off + d.sz) g') :
  OpensF P (Kd.pair d d') (f :: fs) off (fun x => g x.1∧g' x.2):=by
 intro H enc w base spare held fuel cs hl hf;obtain ⟨x,hx⟩:=hf f (by simp);obtain ⟨a,hk,hg⟩:=h H enc w base spare held fuel _ x hx;have hl2 : off + (d.sz + d'.sz)≤cs.length:=hl;obtain ⟨b,hk',hg'⟩:=h' H enc w base spare held fuel cs (by omega) (fun f' hf' => hf f' (by simp [hf']));rw [ho,hc] at hk;refine ⟨(a,b),⟨_,_,?_,hk,hk'⟩,hg,hg'⟩;show (cs.drop off).take (d.sz + d'.sz)=_;rw [List.take_add,List.drop_drop]
theorem opens_struct {α β : Type} {t : TypeId} {fs : Array Field} {d : Kd α} {g : α→Prop} {f : β→α} (f' : α→β) (hf : ∀ a,f (f' a)=a) (ht : P.underlying t=some (.struct fs)) (hc : P.cellsOf t=d.sz) (h : OpensF P d fs.toList 0 g) :
  Opens P (Kd.iso d f) t (fun b => g (f b)):=by
 intro H enc w base spare held fuel cs x hx;obtain ⟨xs,n,_,_,hl,hlen,hxs⟩:=DataW.trod_struct ht hx
 obtain ⟨a,hk,hg⟩:=h H enc w base spare held n cs (by omega) (fun y hy => by
  obtain ⟨i,hi⟩:=List.mem_iff_getElem?.1 hy;have:=hxs i y (by simpa using hi)
  have hlt : i<xs.length:=by
   have:=(List.getElem?_eq_some_iff.1 hi).1;rw [hlen]
   simpa using this
  rw [List.getElem?_eq_getElem hlt] at this
  exact ⟨_,this⟩)
 rw [List.drop_zero,show d.sz=cs.length by omega,List.take_length] at hk;exact ⟨f' a,by show d.K w (f (f' a)) cs;rw [hf];exact hk,by show g (f (f' a));rw [hf];exact hg⟩
theorem arg_struct {α : Type} {d : Kd α} {t : TypeId} {fs : Array Field} {g : α→Prop} {H : Type} {enc : TypeId×Value→H} {w : World} {base b0 : Nat} {spare : Nat→Bool} {held : Bool} {r : Reach} {v : Value} {dd : DataW H} {p : List MemPlace}
  (ht : P.underlying t=some (.struct fs)) (h : Opens P d t g) (hv : Value.okWide P w r b0 t v) (hd : DataW.Trod enc P w base spare held t v dd p) : ∃ (a : α) (cs : List Value),v = .agg ⟨cs⟩∧d.K w a cs∧g a:=by
 obtain ⟨cs,rfl,_⟩:=okWide_struct ht hv;obtain ⟨fuel,hf⟩:=hd;obtain ⟨a,hk,hg⟩:=h H enc w base spare held fuel _ _ hf;exact ⟨a,cs.toList,rfl,hk,hg⟩
end Go.Proofs.YthjgfjlogilleabDoorW.PrintOpen
end
section
namespace Go.Proofs.YthjgfjlogilleabDoor.Q
open Go.RowKit Go.Proofs.YthjgfjlogilleabDoorW.PrintWords Go.Proofs.YthjgfjlogilleabDoorW.PrintLast Go.Proofs.YthjgfjlogilleabDoorW.PrintMore Go.Proofs.YthjgfjlogilleabDoorW.PrintOpen
def good23 (x_ : S23) : Prop:=((Lit.int .i64 x_.f0).wf=true)∧(((Lit.int .i64 x_.f1).wf=true)∧((x_.f2.size≤9223372036854775807)))
theorem opens23 : Opens Tryd.prog k23 23 good23 :=
 opens_struct (f:=(fun x : S23 => (x.f0,x.f1,x.f2))) (fun ⟨x0,x1,x2⟩ => ⟨x0,x1,x2⟩) (fun _ => rfl) Tryd.underlying23 (by kernel_rfl) (opensF_cons rfl (by kernel_rfl) (opens_int Tryd.underlying3) (opensF_cons rfl (by kernel_rfl) (opens_int Tryd.underlying3) (opensF_one rfl (by kernel_rfl) (opens_string Tryd.underlying9))))
def good25 (x_ : S25) : Prop:=((Lit.int .i64 x_.f0).wf=true)∧((x_.f1.size≤9223372036854775807)∧((good23 x_.f2)))
theorem opens25 : Opens Tryd.prog k25 25 good25 :=
 opens_struct (f:=(fun x : S25 => (x.f0,x.f1,x.f2))) (fun ⟨x0,x1,x2⟩ => ⟨x0,x1,x2⟩) (fun _ => rfl) Tryd.underlying25 (by kernel_rfl) (opensF_cons rfl (by kernel_rfl) (opens_int Tryd.underlying3) (opensF_cons rfl (by kernel_rfl) (opens_string Tryd.underlying9) (opensF_one rfl (by kernel_rfl) opens23)))
end Go.Proofs.YthjgfjlogilleabDoor.Q
end
section
namespace Go.Proofs.YthjgfjlogilleabDoor.Q
def F0g.Pure : Prop:=∀ (x0 : S25) (x1 : Bool),(good25 x0)→(True) → ∃ k,F0g.f k x0.f0 x0.f1 x0.f2.f0 x0.f2.f1 x0.f2.f2 x1=some true
end Go.Proofs.YthjgfjlogilleabDoor.Q
end
section
namespace Go.Proofs.YthjgfjlogilleabDoorW.Pl
open Go Go.RowKit Go.Proofs.YthjgfjlogilleabDoorW.PrintWords Go.Proofs.YthjgfjlogilleabDoorW.PrintMore
theorem w64 {i : Int} (h0 : -9223372036854775808≤i) (h1 : i≤9223372036854775807) : wrap64 i=i:=by unfold wrap64;omega
theorem fuel {k d : Nat} (h : d<k) : ∃ m,k=m + 1∧d≤m:=⟨k - 1,by omega,by omega⟩
theorem rdOf_at {α : Type} (d : α) (xs : List α) (i : Nat) (h : i<xs.length) : rdOf d xs (i : Int)=xs[i]:=by
 unfold rdOf;simp [List.getD,h]
theorem rd_at (xs : List Int) (i : Nat) (h : i<xs.length) : rd xs (i : Int)=xs[i]:=by
 unfold rd;simp [List.getD,h]
theorem getD_at {α : Type} (d : α) (xs : List α) (i : Nat) (h : i<xs.length) : xs.getD (i : Int).toNat d=xs[i]:=by
 simp [List.getD,h]
theorem drop_at {α : Type} (xs : List α) (i : Nat) (h : i<xs.length) : xs.drop i=xs[i] :: xs.drop (i + 1):=List.drop_eq_getElem_cons h
theorem ba_toList (a : ByteArray) : a.toList=a.data.toList:=ByteArray.toList_eq a
theorem ba_ext {a b : ByteArray} (h : a.toList=b.toList) : a=b:=by
 rw [ba_toList,ba_toList] at h
 cases a;cases b
 simp at h;rw [h]
def all2 {α β : Type} (e : α→β→Bool) : List α→List β→Bool
 | [],_ => true
 | _ :: _,[] => true
 | x :: xs,y :: ys => e x y && all2 e xs ys
def first {α : Type} (p : α→Bool) : List α→Nat→Int
 | [],_ => -1
 | x :: xs,i => if p x=true then i else first p xs (i + 1)
theorem first_any {α : Type} (p : α→Bool) : ∀ (xs : List α) (i : Nat),decide (first p xs i ≥ 0)=xs.any p
 | [],i => rfl
 | x :: xs,i => by
  by_cases h : p x=true
  ·
   simp [first,h]
  simp only [first,if_neg h,List.any_cons,first_any p xs (i + 1)];simp [h]
theorem first_loop {α : Type} (g : Nat→Int→Option Int) (xs : List α) (p : α→Bool)
  (hstep : ∀ (k i : Nat) (h : i<xs.length),g (k + 1) (i : Int)=if p xs[i]=true then some (i : Int) else g k ((i + 1 : Nat) : Int))
  (hend : ∀ k,g (k + 1) (xs.length : Int)=some (-1)) : ∀ (d k i : Nat),i + d=xs.length→d<k→g k (i : Int)=some (first p (xs.drop i) i):=by
 intro d
 induction d with
 | zero =>
  intro k i hi hk;obtain ⟨k,rfl,_⟩:=fuel hk;obtain rfl : i=xs.length:=by omega
  rw [hend,List.drop_length];rfl
 | succ d ih =>
  intro k i hi hk;obtain ⟨k,rfl,_⟩:=fuel hk;have hlt : i<xs.length:=by omega
  rw [hstep k i hlt,drop_at xs i hlt]
  by_cases h : p xs[i]=true
  ·
   rw [if_pos h]
   simp [first,h]
  rw [if_neg h,ih k (i + 1) (by omega) (by omega)];simp [first,h]
def total {α : Type} (s : α→Nat) : List α→Nat
 | [] => 0
 | x :: xs => s x + total s xs
def less {α : Type} (s : α→Nat) : List α→Int→Int
 | [],l => l
 | x :: xs,l => if l - s x<0 then -1 else less s xs (l - s x)
def Eve {α : Type} (g : Nat→Option α) (v : α) : Prop:=∃ K,∀ k,K≤k→g k=some v
theorem Eve.one {α : Type} {v : α} : Eve (fun _ => some v) v:=⟨0,fun _ _ => rfl⟩
theorem Eve.all {α : Type} {g : Nat→Option α} {v : α} (h : ∀ k,g k=some v) : Eve g v:=⟨0,fun k _ => h k⟩
theorem Eve.of {α : Type} {g : Nat→Option α} {v : α} {n : Nat} (h : ∀ k,n<k→g k=some v) : Eve g v:=⟨n + 1,fun k hk => h k (by omega)⟩
theorem Eve.succ {α : Type} {g : Nat→Option α} {v : α} (h : Eve (fun k => g (k + 1)) v) : Eve g v:=by
 obtain ⟨K,h⟩:=h;refine ⟨K + 1,fun k hk => ?_⟩;obtain ⟨k,rfl⟩ : ∃ m,k=m + 1:=⟨k - 1,by omega⟩;exact h k (by omega)
theorem Eve.bind {α β : Type} {g : Nat→Option α} {f : Nat→α→Option β} {v : α} {u : β} (h : Eve g v) (h2 : Eve (fun k => f k v) u) : Eve (fun k => (g k).bind (f k)) u:=by
 obtain ⟨K,h⟩:=h;obtain ⟨K2,h2⟩:=h2;refine ⟨max K K2,fun k hk => ?_⟩;show (g k).bind (f k)=some u;rw [h k (by omega),Option.bind_some];exact h2 k (by omega)
theorem Eve.ite {α : Type} {c : Prop} [Decidable c] {a b : Nat→Option α} {v : α} (h1 : c→Eve a v) (h2 : ¬ c→Eve b v) : Eve (fun k => if c then a k else b k) v:=by
 by_cases h : c
 ·
  simp only [if_pos h];exact h1 h
 simp only [if_neg h];exact h2 h
theorem Eve.get {α : Type} {g : Nat→Option α} {v : α} (h : Eve g v) : ∃ k,g k=some v:=by
 obtain ⟨K,h⟩:=h;exact ⟨K,h K (by omega)⟩
theorem Eve.eq {α : Type} {g : Nat→Option α} {v u : α} (h : Eve g v) (e : v=u) : Eve g u:=e ▸ h
theorem Eve.congr {α : Type} {g f : Nat→Option α} {v : α} (h : Eve g v) (e : ∀ k,f k=g k) : Eve f v:=by
 obtain ⟨K,h⟩:=h;exact ⟨K,fun k hk => by rw [e,h k hk]⟩
theorem ev_loop {σ α β : Type} (xs : List α) (g : Nat→σ→Int→Option β) (R : Nat→σ→List α→β) (I : Nat→σ→Prop)
  (hend : ∀ s,I xs.length s→Eve (fun k => g (k + 1) s (xs.length : Int)) (R xs.length s []))
  (hstep : ∀ (i : Nat) (h : i<xs.length) (s : σ),I i s→(∀ s',I (i + 1) s' → Eve (fun k => g k s' ((i + 1 : Nat) : Int)) (R (i + 1) s' (xs.drop (i + 1)))) →
   Eve (fun k => g (k + 1) s (i : Int)) (R i s (xs[i] :: xs.drop (i + 1)))) :
  ∀ (d i : Nat) (s : σ),i + d=xs.length→I i s→Eve (fun k => g k s (i : Int)) (R i s (xs.drop i)):=by
 intro d
 induction d with
 | zero =>
  intro i s hi hI;obtain rfl : i=xs.length:=by omega
  rw [List.drop_length];exact Eve.succ (hend s hI)
 | succ d ih =>
  intro i s hi hI;have hlt : i<xs.length:=by omega
  rw [drop_at xs i hlt];exact Eve.succ (hstep i hlt s hI (fun s' h' => ih (i + 1) s' (by omega) h'))
theorem ev_loop0 {σ α β : Type} (xs : List α) (g : Nat→σ→Int→Option β) (R : Nat→σ→List α→β) (I : Nat→σ→Prop)
  (hend : ∀ s,I xs.length s→Eve (fun k => g (k + 1) s (xs.length : Int)) (R xs.length s []))
  (hstep : ∀ (i : Nat) (h : i<xs.length) (s : σ),I i s→(∀ s',I (i + 1) s' → Eve (fun k => g k s' ((i + 1 : Nat) : Int)) (R (i + 1) s' (xs.drop (i + 1)))) →
   Eve (fun k => g (k + 1) s (i : Int)) (R i s (xs[i] :: xs.drop (i + 1)))) (s : σ) (h0 : I 0 s) : Eve (fun k => g k s 0) (R 0 s xs):=by
 have:=ev_loop xs g R I hend hstep xs.length 0 s (by omega) h0
 simpa using this
theorem ev_all {α : Type} (xs : List α) (g : Nat→Int→Option Bool) (q : α→Bool)
  (hend : Eve (fun k => g (k + 1) (xs.length : Int)) true)
  (hstep : ∀ (i : Nat) (h : i<xs.length) (v : Bool),Eve (fun k => g k ((i + 1 : Nat) : Int)) v→Eve (fun k => g (k + 1) (i : Int)) (q xs[i] && v)) : Eve (fun k => g k 0) (xs.all q) :=
 ev_loop0 xs (fun k (_ : Unit) i => g k i) (fun _ _ r => r.all q) (fun _ _ => True) (fun _ _ => hend) (fun i hi s _ ih => by
  rw [List.all_cons];exact hstep i hi _ (ih () trivial)) () trivial
end Go.Proofs.YthjgfjlogilleabDoorW.Pl
end
section
namespace Go.Proofs.YthjgfjlogilleabDoor.Pure
open Go Go.RowKit Go.Proofs.YthjgfjlogilleabDoor.Q Go.Proofs.YthjgfjlogilleabDoorW.PrintWords Go.Proofs.YthjgfjlogilleabDoorW.PrintLast Go.Proofs.YthjgfjlogilleabDoorW.PrintMore Go.Proofs.YthjgfjlogilleabDoorW.Pl
theorem wi {i : Nat} (h : i≤9223372036854775806) : wrap64 ((i : Int) + 1)=((i + 1 : Nat) : Int):=w64 (by omega) (by omega)
theorem w64m (y : Int) : wrap64 y=(y + 9223372036854775808) % 18446744073709551616 - 9223372036854775808:=by unfold wrap64;omega
def stp (x b : Int) : Int:=wrap64 (wrap64 (x * 256) + wrap64 b)
theorem or_byte (x b : Int) (h0 : 0≤b) (h1 : b≤255) : Go.bits .or .i64 (wrap64 (x * 256)) (wrap64 b)=stp x b:=by
 have e1 : (BitVec.ofInt 64 (wrap64 (x * 256))).toNat=2 ^ 8 * (x % 72057594037927936).toNat:=by
  rw [BitVec.toNat_ofInt,w64m];omega
 have e2 : (BitVec.ofInt 64 (wrap64 b)).toNat=b.toNat:=by
  rw [BitVec.toNat_ofInt,w64m];omega
 have e3 : (BitVec.ofInt 64 (wrap64 (x * 256)) ||| BitVec.ofInt 64 (wrap64 b)).toNat=2 ^ 8 * (x % 72057594037927936).toNat + b.toNat:=by
  rw [BitVec.toNat_or,e1,e2,Nat.two_pow_add_eq_or_of_lt (by omega)]
 show IntKind.wrap .i64 ((BitVec.ofInt 64 (wrap64 (x * 256)) ||| BitVec.ofInt 64 (wrap64 b)).toNat : Int)=_;rw [e3,i64_w];unfold stp;rw [w64m,w64m,w64m,w64m]
 omega
def bigV (l : List Int) : Int:=l.foldl stp 0
theorem bytes_in (a : ByteArray) : ∀ b ∈ bytesOf a,0≤b∧b≤255:=by
 intro b hb;obtain ⟨c,_,rfl⟩:=List.mem_map.1 hb;have:=c.toNat_lt
 omega
theorem bt_get (a : ByteArray) (i : Nat) (h : i<(bytesOf a).length) : bt a (i : Int)=(bytesOf a)[i]:=by
 rw [← rd_bytesOf,rd_at _ _ h]
theorem big_tells (l : List Int) (hl : l.length≤1048576) (hb : ∀ b ∈ l,0≤b∧b≤255) : Eve (fun k => Fv.f k l) (bigV l):=by
 simp only [Fv.f];refine ev_loop0 l (fun k (s : Int) i => Fv.l0 k s l (l.length : Int) i) (fun _ s r => r.foldl stp s) (fun _ _ => True) (fun s _ => ?_) (fun i hi s _ ih => ?_) 0 trivial
 ·
  simp only [Fv.l0]
  exact Eve.ite (fun h => absurd h (by omega)) (fun _ => Eve.one)
 have hx:=hb l[i] (List.getElem_mem hi);simp only [Fv.l0];refine Eve.ite (fun _ => ?_) (fun h => absurd (by omega) h);refine Eve.ite (fun _ => ?_) (fun h => absurd (by omega) h);refine Eve.ite (fun _ => ?_) (fun h => absurd (by omega) h);simp only [rd_at _ _ hi,or_byte _ _ hx.1 hx.2,wi (show i≤9223372036854775806 by omega)];exact ih _ trivial
theorem of_tells (a : ByteArray) (hl : a.size≤1048576) : Eve (fun k => Fs.f k a) (bigV (bytesOf a)):=by
 have hn : (bytesOf a).length=a.size:=bytesOf_length a;simp only [Fs.f];refine ev_loop0 (bytesOf a) (fun k (s : Int) i => Fs.l0 k a s i) (fun _ s r => r.foldl stp s) (fun _ _ => True) (fun s _ => ?_) (fun i hi s _ ih => ?_) 0 trivial
 ·
  simp only [Fs.l0]
  exact Eve.ite (fun h => absurd h (by omega)) (fun _ => Eve.one)
 simp only [Fs.l0];refine Eve.ite (fun _ => ?_) (fun h => absurd (by omega) h);refine Eve.ite (fun _ => ?_) (fun h => absurd (by omega) h);simp only [bt_get a i hi,wi (show i≤9223372036854775806 by omega)];exact ih _ trivial
def zer (n : Nat) : ByteArray:=⟨(Lib.repeatL [0] n).toArray⟩
def takV (a : ByteArray) (f : Bool) (n : Nat) : ByteArray×ByteArray×Bool:=if a.size<n then (zer n,a,true) else (a.extract 0 n,a.extract n a.size,f)
def numV (a : ByteArray) (f : Bool) (n : Nat) : Int×ByteArray×Bool:=if a.size<n then (0,a,true) else (bigV (bytesOf (a.extract 0 n)),a.extract n a.size,f)
theorem take_tells (a : ByteArray) (f : Bool) (n : Nat) (hn : n≤65535) : F05.f a f (n : Int)=some (takV a f n):=by
 unfold F05.f takV
 by_cases h : a.size<n
 ·
  rw [if_pos (by omega),if_pos h]
  unfold strings_Repeat.f;rw [if_pos (by omega),if_pos (by rw [show (⟨#[0]⟩ : ByteArray).size=1 from rfl];omega),if_pos (by omega)]
  rfl
 rw [if_neg (by omega),if_pos (by omega),if_pos (by omega),if_neg h]
 rfl
theorem zer_size (n : Nat) : (zer n).size=n:=by
 show (Lib.repeatL [0] n).toArray.size=n;rw [List.size_toArray,Lib.repeatL_length];simp
theorem fold_zero : ∀ n : Nat,((Lib.repeatL [0] n).map fun b : UInt8 => (b.toNat : Int)).foldl stp 0=0
 | 0 => rfl
 | n + 1 => by
  have e : stp 0 0=0:=by unfold stp;rw [w64m,w64m,w64m];omega
  simp only [Lib.repeatL,List.cons_append,List.nil_append,List.map_cons,List.foldl_cons];rw [show ((0 : UInt8).toNat : Int)=0 from rfl,e];exact fold_zero n
theorem big_zer (n : Nat) : bigV (bytesOf (zer n))=0:=by
 unfold bigV bytesOf zer;exact fold_zero n
theorem num_tells (a : ByteArray) (f : Bool) (n : Nat) (hn : n≤65535) : Eve (fun k => Fq.f k a f (n : Int)) (numV a f n):=by
 simp only [Fq.f,take_tells a f n hn,Option.bind_some];unfold takV numV
 by_cases h : a.size<n
 ·
  simp only [if_pos h]
  have hz:=zer_size n;refine Eve.ite (fun _ => ?_) (fun h => absurd (by omega) h);refine Eve.bind (big_tells _ (by rw [bytesOf_length,hz];omega) (bytes_in _)) ?_;rw [big_zer];exact Eve.one
 simp only [if_neg h];have hz : (a.extract 0 n).size≤n:=by rw [ByteArray.size_extract];omega
 refine Eve.ite (fun _ => ?_) (fun h => absurd (by omega) h);exact Eve.bind (big_tells _ (by rw [bytesOf_length];omega) (bytes_in _)) Eve.one
theorem big1 (x : Int) (h : 0≤x∧x≤255) : bigV [x]=x:=by
 simp only [bigV,List.foldl_cons,List.foldl_nil,stp];rw [w64m,w64m,w64m];omega
theorem big2 (x y : Int) (h : 0≤x∧x≤255) (h2 : 0≤y∧y≤255) : 0≤bigV [x,y]∧bigV [x,y]≤65535:=by
 simp only [bigV,List.foldl_cons,List.foldl_nil,stp];simp only [w64m];omega
theorem len1 {l : List Int} (h : l.length=1) : ∃ x,l=[x]:=by
 match l,h with
 | [x],_ => exact ⟨x,rfl⟩
theorem len2 {l : List Int} (h : l.length=2) : ∃ x y,l=[x,y]:=by
 match l,h with
 | [x,y],_ => exact ⟨x,y,rfl⟩
theorem bytes_ext1 (a : ByteArray) (i : Nat) (h : i<a.size) : bigV (bytesOf (a.extract i (i + 1)))=bt a (i : Int):=by
 have hl : (bytesOf (a.extract i (i + 1))).length=1:=by rw [bytesOf_length,ByteArray.size_extract];omega
 obtain ⟨x,hx⟩:=len1 hl;have h2:=bytes_in (a.extract i (i + 1)) x (by rw [hx];simp);have h3:=bt_get (a.extract i (i + 1)) 0 (by omega);rw [hx,big1 x h2];simp only [hx,List.getElem_cons_zero] at h3;rw [← h3];unfold bt;have e0 : (((0 : Nat) : Int)).toNat=0:=rfl;have e1 : ((i : Int)).toNat=i:=Int.toNat_natCast i;simp only [e0,e1];rw [dif_pos (by rw [ByteArray.size_extract];omega),dif_pos h]
 congr 2
 rw [ByteArray.getElem_extract];simp
theorem bytes_ext2 (a : ByteArray) (i : Nat) (h : i + 2≤a.size) : 0≤bigV (bytesOf (a.extract i (i + 2)))∧bigV (bytesOf (a.extract i (i + 2)))≤65535:=by
 have hl : (bytesOf (a.extract i (i + 2))).length=2:=by rw [bytesOf_length,ByteArray.size_extract];omega
 obtain ⟨x,y,hx⟩:=len2 hl;have hb:=bytes_in (a.extract i (i + 2));rw [hx] at hb ⊢;exact big2 x y (hb x (by simp)) (hb y (by simp))
abbrev IVal:=S31
abbrev eB : ByteArray:=⟨#[]⟩
abbrev Rd:=Int×Int×ByteArray×ByteArray×Bool
def valV (a : ByteArray) (f : Bool) : Rd :=
  let q:=numV a f 1
  if q.1=1 then (q.1,(numV q.2.1 q.2.2 1).1,eB,(numV q.2.1 q.2.2 1).2.1,(numV q.2.1 q.2.2 1).2.2)
  else if q.1=2 then (q.1,wrap64 ((numV q.2.1 q.2.2 8).1 - 4611686018427387904),eB,(numV q.2.1 q.2.2 8).2.1,(numV q.2.1 q.2.2 8).2.2)
  else if q.1=3∨q.1=4∨q.1=5 then
    let r:=numV q.2.1 q.2.2 2
    (q.1,0,(takV r.2.1 r.2.2 r.1.toNat).1,(takV r.2.1 r.2.2 r.1.toNat).2.1,(takV r.2.1 r.2.2 r.1.toNat).2.2)
  else (q.1,0,eB,q.2.1,q.2.2)
theorem num2_in (a : ByteArray) (f : Bool) : 0≤(numV a f 2).1∧(numV a f 2).1≤65535:=by
  unfold numV
  by_cases h : a.size<2
  · rw [if_pos h];simp
  rw [if_neg h];exact bytes_ext2 a 0 (by omega)
theorem j0_tells (q x1 : Int) (t : ByteArray) (a : ByteArray) (f : Bool) : Eve (fun k => Fh.j0 k true a f q x1 t) (q,x1,(takV (numV a f 2).2.1 (numV a f 2).2.2 (numV a f 2).1.toNat).1,(takV (numV a f 2).2.1 (numV a f 2).2.2 (numV a f 2).1.toNat).2.1,(takV (numV a f 2).2.1 (numV a f 2).2.2 (numV a f 2).1.toNat).2.2):=by
  refine Eve.succ ?_;simp only [Fh.j0,if_true];refine Eve.bind (num_tells a f 2 (by omega)) ?_;have hb:=num2_in a f;have ht:=take_tells (numV a f 2).2.1 (numV a f 2).2.2 (numV a f 2).1.toNat (by omega);rw [show (((numV a f 2).1.toNat : Nat) : Int)=(numV a f 2).1 from Int.toNat_of_nonneg hb.1] at ht;simp only [ht,Option.bind_some];exact Eve.one
theorem value_tells (a : ByteArray) (f : Bool) : Eve (fun k => Fh.f k a f) (valV a f):=by
  simp only [Fh.f];refine Eve.bind (num_tells a f 1 (by omega)) ?_;unfold valV;generalize numV a f 1=q;simp only;refine Eve.ite (fun h => ?_) (fun h => ?_)
  · rw [if_pos h]
    exact Eve.bind (num_tells q.2.1 q.2.2 1 (by omega)) Eve.one
  rw [if_neg h];refine Eve.ite (fun h2 => ?_) (fun h2 => ?_)
  · rw [if_pos h2]
    exact Eve.bind (num_tells q.2.1 q.2.2 8 (by omega)) Eve.one
  rw [if_neg h2];refine Eve.ite (fun h3 => ?_) (fun h3 => ?_)
  · rw [if_pos (.inl h3)]
    simp only [h3,beq_self_eq_true];exact j0_tells _ _ _ _ _
  refine Eve.ite (fun h4 => ?_) (fun h4 => ?_)
  · rw [if_pos (.inr (.inl h4))]
    simp only [h4,beq_self_eq_true];exact j0_tells _ _ _ _ _
  by_cases h5 : q.1=5
  · rw [if_pos (.inr (.inr h5))]
    simp only [h5,beq_self_eq_true];exact j0_tells _ _ _ _ _
  rw [if_neg (by omega)];have : (q.1 == 5)=false:=by simpa using h5
  simp only [this];refine Eve.succ ?_;simp only [Fh.j0,Bool.false_eq_true,if_false];exact Eve.one
def nxtV (a : ByteArray) : Option (IVal×ByteArray) :=
  if a.size=0 then none
  else if bt a 0=0 then some (⟨0,0,eB⟩,a.extract 1 a.size)
  else if bt a 0=1 then (if a.size<2 then none else some (⟨1,bt a 1,eB⟩,a.extract 2 a.size))
  else if bt a 0=2 then (if a.size<9 then none else if bt a 1 > 127 then none else some (⟨2,wrap64 (bigV (bytesOf (a.extract 1 9)) - 4611686018427387904),eB⟩,a.extract 9 a.size))
  else if bt a 0=3∨bt a 0=4∨bt a 0=5 then
    (if a.size<3 then none else if (a.size : Int)<3 + bigV (bytesOf (a.extract 1 3)) then none
     else some (⟨bt a 0,0,a.extract 3 (3 + bigV (bytesOf (a.extract 1 3))).toNat⟩,a.extract (3 + bigV (bytesOf (a.extract 1 3))).toNat a.size))
  else none
def told (o : Option (IVal×ByteArray)) : Rd:=match o with|some (v,r) => (v.f0,v.f1,v.f2,r,true)|none => (0,0,eB,eB,false)
theorem wbt (a : ByteArray) (i : Int) : wrap64 (bt a i)=bt a i:=w64 (by have:=bt_range a i;omega) (by have:=bt_range a i;omega)
theorem n0_tells (a : ByteArray) (q : Int) (hs : a.size≤1048576) : Eve (fun k => F2.j0 k a true q 0 eB)
    (told (if a.size<3 then none else if (a.size : Int)<3 + bigV (bytesOf (a.extract 1 3)) then none
     else some (⟨q,0,a.extract 3 (3 + bigV (bytesOf (a.extract 1 3))).toNat⟩,a.extract (3 + bigV (bytesOf (a.extract 1 3))).toNat a.size))):=by
  refine Eve.succ ?_;simp only [F2.j0,if_true];refine Eve.ite (fun h => ?_) (fun h => ?_)
  · rw [if_pos (by omega)];exact Eve.one
  rw [if_neg (by omega)];refine Eve.ite (fun _ => ?_) (fun h => absurd (by omega) h);refine Eve.ite (fun _ => ?_) (fun h => absurd (by omega) h);refine Eve.bind (of_tells (a.extract 1 3) (by rw [ByteArray.size_extract];omega)) ?_;have hb:=bytes_ext2 a 1 (by omega);simp only [show 1 + 2=3 from rfl] at hb;have hw : wrap64 (3 + bigV (bytesOf (a.extract 1 3)))=3 + bigV (bytesOf (a.extract 1 3)):=w64 (by omega) (by omega);simp only [hw];refine Eve.ite (fun h2 => ?_) (fun h2 => ?_)
  · rw [if_pos h2];exact Eve.one
  rw [if_neg h2];refine Eve.ite (fun _ => ?_) (fun h => absurd (by omega) h);refine Eve.ite (fun _ => ?_) (fun h => absurd (by omega) h);exact Eve.ite (fun _ => Eve.one) (fun h => absurd (by omega) h)
theorem next_tells (a : ByteArray) (hs : a.size≤1048576) : Eve (fun k => F2.f k a) (told (nxtV a)):=by
  unfold nxtV;simp only [F2.f,wbt];refine Eve.ite (fun h => ?_) (fun h => ?_)
  · have hz : a.size=0:=by omega
    rw [if_pos hz];exact Eve.one
  have hz : ¬ a.size=0:=by omega
  rw [if_neg hz];refine Eve.ite (fun _ => ?_) (fun h => absurd (by omega) h);refine Eve.ite (fun h0 => ?_) (fun h0 => ?_)
  · rw [if_pos h0]
    refine Eve.ite (fun _ => ?_) (fun h => absurd (by omega) h);exact Eve.one.eq (by rw [h0];rfl)
  rw [if_neg h0];refine Eve.ite (fun h1 => ?_) (fun h1 => ?_)
  · rw [if_pos h1]
    refine Eve.succ ?_;simp only [F2.j1,wbt,h1];have hw : wrap64 (1 + 1)=2:=w64 (by omega) (by omega);simp only [hw,if_true];refine Eve.ite (fun h => ?_) (fun h => ?_)
    · have hy : a.size<2:=by omega
      rw [if_pos hy];exact Eve.one
    have hy : ¬ a.size<2:=by omega
    rw [if_neg hy];refine Eve.ite (fun _ => ?_) (fun h => absurd (by omega) h);refine Eve.ite (fun _ => ?_) (fun h => absurd (by omega) h);exact Eve.ite (fun _ => Eve.one) (fun h => absurd (by omega) h)
  rw [if_neg h1];refine Eve.ite (fun h2 => ?_) (fun h2 => ?_)
  · rw [if_pos h2]
    refine Eve.succ ?_;simp only [F2.j1,h2];have hw : wrap64 (1 + 8)=9:=w64 (by omega) (by omega);simp only [hw];refine Eve.ite (fun h => ?_) (fun h => ?_)
    · have hy : a.size<9:=by omega
      rw [if_pos hy];exact Eve.one
    have hy : ¬ a.size<9:=by omega
    rw [if_neg hy];refine Eve.ite (fun h => absurd h (by omega)) (fun _ => ?_);refine Eve.ite (fun _ => ?_) (fun h => absurd (by omega) h);refine Eve.ite (fun h => ?_) (fun h => ?_)
    · rw [if_pos h];exact Eve.one
    rw [if_neg h];refine Eve.ite (fun _ => ?_) (fun h => absurd (by omega) h);refine Eve.ite (fun _ => ?_) (fun h => absurd (by omega) h);refine Eve.bind (of_tells (a.extract 1 9) (by rw [ByteArray.size_extract];omega)) ?_;refine Eve.ite (fun _ => ?_) (fun h => absurd (by omega) h);exact Eve.ite (fun _ => Eve.one) (fun h => absurd (by omega) h)
  rw [if_neg h2];refine Eve.ite (fun h3 => ?_) (fun h3 => ?_)
  · rw [if_pos (show bt a 0=3∨bt a 0=4∨bt a 0=5 from .inl h3)]
    simp only [h3,beq_self_eq_true];exact n0_tells a 3 hs
  refine Eve.ite (fun h4 => ?_) (fun h4 => ?_)
  · rw [if_pos (show bt a 0=3∨bt a 0=4∨bt a 0=5 from .inr (.inl h4))]
    simp only [h4,beq_self_eq_true];exact n0_tells a 4 hs
  by_cases h5 : bt a 0=5
  · rw [if_pos (show bt a 0=3∨bt a 0=4∨bt a 0=5 from .inr (.inr h5))]
    simp only [h5,beq_self_eq_true];exact n0_tells a 5 hs
  have hy : ¬ (bt a 0=3∨bt a 0=4∨bt a 0=5):=by omega
  rw [if_neg hy];have : (bt a 0 == 5)=false:=by simpa using h5
  simp only [this];refine Eve.succ ?_;simp only [F2.j0,Bool.false_eq_true,if_false];exact Eve.one
def Bad (v : IVal) : Prop:=v.f0<0∨v.f0 > 5∨(v.f0=2∧(v.f1 < -1000000000000∨v.f1 > 1000000000000))
def rdv (r : Rd) : IVal:=⟨r.1,r.2.1,r.2.2.1⟩
theorem num_one (a : ByteArray) (f : Bool) (h : 0<a.size) : numV a f 1=(bt a 0,a.extract 1 a.size,f):=by
  unfold numV;rw [if_neg (by omega)];have:=bytes_ext1 a 0 h;simp only [Nat.zero_add] at this;rw [this];rfl
theorem num_none (a : ByteArray) (f : Bool) (n : Nat) (h : a.size<n) : numV a f n=(0,a,true):=by unfold numV;rw [if_pos h]
theorem num_some (a : ByteArray) (f : Bool) (n : Nat) (h : n≤a.size) : numV a f n=(bigV (bytesOf (a.extract 0 n)),a.extract n a.size,f):=by unfold numV;rw [if_neg (by omega)]
theorem tail_size (a : ByteArray) (n : Nat) : (a.extract n a.size).size=a.size - n:=by rw [ByteArray.size_extract];omega
theorem ext_ext (a : ByteArray) (n i j : Nat) (h : n + j≤a.size) : (a.extract n a.size).extract i j=a.extract (n + i) (n + j):=by
  rw [ByteArray.extract_extract,Nat.min_eq_left h]
theorem ext_tail (a : ByteArray) (n i : Nat) (h : n≤a.size) : (a.extract n a.size).extract i (a.extract n a.size).size=a.extract (n + i) a.size:=by
  rw [tail_size,ByteArray.extract_extract]
  congr 1
  omega
theorem big8 (l : List Int) (x : Int) (r : List Int) (hl : l=x :: r) (hr : r.length=7) (hb : ∀ b ∈ l,0≤b∧b≤255) (hx : x > 127) : wrap64 (bigV l - 4611686018427387904) < -1000000000000∨wrap64 (bigV l - 4611686018427387904) > 1000000000000:=by
  subst hl
  match r,hr with
  | [b1,b2,b3,b4,b5,b6,b7],_ =>
    have h0:=hb x (by simp);have h1:=hb b1 (by simp);have h2:=hb b2 (by simp);have h3:=hb b3 (by simp);have h4:=hb b4 (by simp);have h5:=hb b5 (by simp);have h6:=hb b6 (by simp);have h7:=hb b7 (by simp)
    have e : bigV [x,b1,b2,b3,b4,b5,b6,b7]=x * 72057594037927936 + b1 * 281474976710656 + b2 * 1099511627776 + b3 * 4294967296 + b4 * 16777216 + b5 * 65536 + b6 * 256 + b7 - 18446744073709551616:=by
      simp only [bigV,List.foldl_cons,List.foldl_nil];have s0 : stp 0 x=x:=by unfold stp;simp only [w64m];omega
      have s1 : stp x b1=x * 256 + b1:=by unfold stp;simp only [w64m];omega
      have s2 : stp (x * 256 + b1) b2=x * 65536 + b1 * 256 + b2:=by unfold stp;simp only [w64m];omega
      have s3 : stp (x * 65536 + b1 * 256 + b2) b3=x * 16777216 + b1 * 65536 + b2 * 256 + b3:=by unfold stp;simp only [w64m];omega
      have s4 : stp (x * 16777216 + b1 * 65536 + b2 * 256 + b3) b4=x * 4294967296 + b1 * 16777216 + b2 * 65536 + b3 * 256 + b4:=by unfold stp;simp only [w64m];omega
      have s5 : stp (x * 4294967296 + b1 * 16777216 + b2 * 65536 + b3 * 256 + b4) b5=x * 1099511627776 + b1 * 4294967296 + b2 * 16777216 + b3 * 65536 + b4 * 256 + b5:=by unfold stp;simp only [w64m];omega
      have s6 : stp (x * 1099511627776 + b1 * 4294967296 + b2 * 16777216 + b3 * 65536 + b4 * 256 + b5) b6=x * 281474976710656 + b1 * 1099511627776 + b2 * 4294967296 + b3 * 16777216 + b4 * 65536 + b5 * 256 + b6:=by unfold stp;simp only [w64m];omega
      rw [s0,s1,s2,s3,s4,s5,s6];unfold stp;simp only [w64m];omega
    rw [e,w64m]
    omega
theorem nxt_some (a : ByteArray) (v : IVal) (r : ByteArray) (h : nxtV a=some (v,r)) : valV a false=(v.f0,v.f1,v.f2,r,false)∧r.size<a.size:=by
  unfold nxtV at h
  by_cases hz : a.size=0
  · rw [if_pos hz] at h;simp at h
  rw [if_neg hz] at h;unfold valV;rw [num_one a false (by omega)];simp only;have ht:=tail_size a 1
  by_cases h0 : bt a 0=0
  · rw [if_pos h0] at h
    obtain ⟨rfl,rfl⟩ : _∧_:=by simpa using h
    rw [if_neg (by omega),if_neg (by omega),if_neg (by omega),h0];exact ⟨rfl,by omega⟩
  rw [if_neg h0] at h
  by_cases h1 : bt a 0=1
  · rw [if_pos h1] at h
    by_cases h2 : a.size<2
    · rw [if_pos h2] at h;simp at h
    rw [if_neg h2] at h;obtain ⟨rfl,rfl⟩ : _∧_:=by simpa using h
    rw [if_pos h1,num_some _ _ _ (by omega),ext_ext _ _ _ _ (by omega),ext_tail _ _ _ (by omega),h1];have:=bytes_ext1 a 1 (by omega);refine ⟨?_,by rw [tail_size];omega⟩;show (1,bigV (bytesOf (a.extract 1 (1 + 1))),eB,a.extract 2 a.size,false)=_;rw [this];rfl
  rw [if_neg h1] at h
  by_cases h2 : bt a 0=2
  · rw [if_pos h2] at h
    by_cases h3 : a.size<9
    · rw [if_pos h3] at h;simp at h
    rw [if_neg h3] at h
    by_cases h4 : bt a 1 > 127
    · rw [if_pos h4] at h;simp at h
    rw [if_neg h4] at h;obtain ⟨rfl,rfl⟩ : _∧_:=by simpa using h
    rw [if_neg h1,if_pos h2,num_some _ _ _ (by omega),ext_ext _ _ _ _ (by omega),ext_tail _ _ _ (by omega),h2];exact ⟨rfl,by rw [tail_size];omega⟩
  rw [if_neg h2] at h
  by_cases h3 : bt a 0=3∨bt a 0=4∨bt a 0=5
  · rw [if_pos h3] at h
    by_cases h4 : a.size<3
    · rw [if_pos h4] at h;simp at h
    rw [if_neg h4] at h;have hb:=bytes_ext2 a 1 (by omega);simp only [show 1 + 2=3 from rfl] at hb
    by_cases h5 : (a.size : Int)<3 + bigV (bytesOf (a.extract 1 3))
    · rw [if_pos h5] at h;simp at h
    rw [if_neg h5] at h;obtain ⟨rfl,rfl⟩ : _∧_:=by simpa using h
    rw [if_neg h1,if_neg h2,if_pos h3,num_some _ _ _ (by omega),ext_ext _ _ _ _ (by omega),ext_tail _ _ _ (by omega)];simp only [show 1 + 0=1 from rfl,show 1 + 2=3 from rfl];generalize bigV (bytesOf (a.extract 1 3))=n at hb h5 ⊢;obtain ⟨n,rfl⟩ : ∃ m : Nat,n=(m : Int):=⟨n.toNat,by omega⟩;have e1 : ((n : Int)).toNat=n:=Int.toNat_natCast n;have e2 : (3 + (n : Int)).toNat=3 + n:=by omega
    have ht3:=tail_size a 3;unfold takV;simp only [e1,e2];rw [if_neg (by omega),ext_ext _ _ _ _ (by omega),ext_tail _ _ _ (by omega)];exact ⟨rfl,by rw [tail_size];omega⟩
  rw [if_neg h3] at h;simp at h
theorem nxt_none (a : ByteArray) (h : nxtV a=none) : (valV a false).2.2.2.2=true∨Bad (rdv (valV a false)):=by
  by_cases hz : a.size=0
  · left
    unfold valV;rw [num_none a false 1 (by omega)];simp
  unfold nxtV at h;rw [if_neg hz] at h;unfold valV;rw [num_one a false (by omega)];simp only;have ht:=tail_size a 1
  by_cases h0 : bt a 0=0
  · rw [if_pos h0] at h;simp at h
  rw [if_neg h0] at h
  by_cases h1 : bt a 0=1
  · rw [if_pos h1] at h ⊢
    by_cases h2 : a.size<2
    · left;rw [num_none _ _ _ (by omega)]
    rw [if_neg h2] at h;simp at h
  rw [if_neg h1] at h ⊢
  by_cases h2 : bt a 0=2
  · rw [if_pos h2] at h ⊢
    by_cases h3 : a.size<9
    · left;rw [num_none _ _ _ (by omega)]
    rw [if_neg h3] at h
    by_cases h4 : bt a 1 > 127
    · right;right;right
      refine ⟨h2,?_⟩;rw [num_some _ _ _ (by omega),ext_ext _ _ _ _ (by omega)];simp only [show 1 + 0=1 from rfl,show 1 + 8=9 from rfl,rdv];have hl : (bytesOf (a.extract 1 9)).length=8:=by rw [bytesOf_length,ByteArray.size_extract];omega
      have hg:=bt_get (a.extract 1 9) 0 (by omega)
      have he : bt (a.extract 1 9) ((0 : Nat) : Int)=bt a 1:=by
        unfold bt;have e0 : (((0 : Nat) : Int)).toNat=0:=rfl;have e1 : ((1 : Int)).toNat=1:=rfl;simp only [e0,e1];rw [dif_pos (by rw [ByteArray.size_extract];omega),dif_pos (by omega)]
        congr 2
        rw [ByteArray.getElem_extract]
      cases hc : bytesOf (a.extract 1 9) with
      | nil => rw [hc] at hl;simp at hl
      | cons x r =>
        have hb:=bytes_in (a.extract 1 9);rw [he] at hg;simp only [hc,List.getElem_cons_zero] at hg;rw [hc] at hl hb;exact big8 _ x r rfl (by simpa using hl) hb (by omega)
    rw [if_neg h4] at h;simp at h
  rw [if_neg h2] at h ⊢
  by_cases h3 : bt a 0=3∨bt a 0=4∨bt a 0=5
  · rw [if_pos h3] at h ⊢
    left
    by_cases h4 : a.size<3
    · rw [num_none _ _ 2 (by omega)]
      unfold takV;simp
    rw [if_neg h4] at h;have hb:=bytes_ext2 a 1 (by omega);simp only [show 1 + 2=3 from rfl] at hb
    by_cases h5 : (a.size : Int)<3 + bigV (bytesOf (a.extract 1 3))
    · rw [num_some _ _ 2 (by omega),ext_ext _ _ _ _ (by omega),ext_tail _ _ _ (by omega)]
      simp only [show 1 + 0=1 from rfl,show 1 + 2=3 from rfl];unfold takV;rw [if_pos (by rw [tail_size];omega)]
    rw [if_neg h5] at h;simp at h
  rw [if_neg h3]
  right
  have:=bt_range a 0
  right;left
  show bt a 0 > 5
  omega
theorem num_mono (a : ByteArray) (f : Bool) (n : Nat) : (numV a f n).2.1.size≤a.size∧(f=true→(numV a f n).2.2=true):=by
  unfold numV
  by_cases h : a.size<n
  · rw [if_pos h];exact ⟨Nat.le_refl _,fun _ => rfl⟩
  rw [if_neg h];exact ⟨by simp only [tail_size];omega,fun h => h⟩
theorem tak_mono (a : ByteArray) (f : Bool) (n : Nat) : (takV a f n).2.1.size≤a.size∧(f=true→(takV a f n).2.2=true):=by
  unfold takV
  by_cases h : a.size<n
  · rw [if_pos h];exact ⟨Nat.le_refl _,fun _ => rfl⟩
  rw [if_neg h];exact ⟨by simp only [tail_size];omega,fun h => h⟩
theorem val_mono (a : ByteArray) (f : Bool) : (valV a f).2.2.2.1.size≤(numV a f 1).2.1.size∧(f=true→(valV a f).2.2.2.2=true):=by
  have hq:=num_mono a f 1;unfold valV;generalize numV a f 1=q at hq;simp only
  by_cases h1 : q.1=1
  · rw [if_pos h1]
    have:=num_mono q.2.1 q.2.2 1;exact ⟨this.1,fun h => this.2 (hq.2 h)⟩
  rw [if_neg h1]
  by_cases h2 : q.1=2
  · rw [if_pos h2]
    have:=num_mono q.2.1 q.2.2 8;exact ⟨this.1,fun h => this.2 (hq.2 h)⟩
  rw [if_neg h2]
  by_cases h3 : q.1=3∨q.1=4∨q.1=5
  · rw [if_pos h3]
    have hr:=num_mono q.2.1 q.2.2 2;have ht:=tak_mono (numV q.2.1 q.2.2 2).2.1 (numV q.2.1 q.2.2 2).2.2 (numV q.2.1 q.2.2 2).1.toNat;exact ⟨Nat.le_trans ht.1 hr.1,fun h => ht.2 (hr.2 (hq.2 h))⟩
  rw [if_neg h3];exact ⟨Nat.le_refl _,hq.2⟩
theorem val_less (a : ByteArray) (f : Bool) (h : 0<a.size) : (valV a f).2.2.2.1.size<a.size:=by
  have h1:=(val_mono a f).1;rw [num_one a f h] at h1;have:=tail_size a 1;simp only at h1
  omega
abbrev IFld:=S70
theorem emp (a : ByteArray) : a.toList=([] : List UInt8)↔a.size=0:=by
 rw [ba_toList,← data_length,List.length_eq_zero_iff]
def itS : Nat→ByteArray→Option (List IVal)
 | 0,a => if a.size=0 then some [] else none
 | m + 1,a => if a.size=0 then some [] else match nxtV a with
  | none => none
  | some (v,r) => (itS m r).map (v :: ·)
def toldL (acc : List IVal) (o : Option (List IVal)) : List IVal×Bool:=match o with|some l => (acc ++ l,true)|none => ([],false)
theorem items_spec : ∀ (m : Nat) (a : ByteArray) (acc : List IVal),a.size≤m→a.size≤1048576→acc.length + a.size≤1048576→Eve (fun k => Fj.l0 k a acc) (toldL acc (itS m a)):=by
 intro m
 induction m with
 | zero =>
  intro a acc h1 h2 h3;refine Eve.succ ?_;simp only [Fj.l0,itS];have hz : a.size=0:=by omega
  rw [if_pos hz];exact Eve.ite (fun h => absurd h (by omega)) (fun _ => Eve.one.eq (by simp [toldL]))
 | succ m ih =>
  intro a acc h1 h2 h3;refine Eve.succ ?_;simp only [Fj.l0,itS]
  by_cases hz : a.size=0
  ·
   rw [if_pos hz]
   exact Eve.ite (fun h => absurd h (by omega)) (fun _ => Eve.one.eq (by simp [toldL]))
  rw [if_neg hz];refine Eve.ite (fun _ => ?_) (fun h => absurd (by omega) h);refine Eve.bind (next_tells a h2) ?_
  cases hn : nxtV a with
  | none => simp only [told,Bool.false_eq_true,if_false];exact Eve.one
  | some p =>
   obtain ⟨v,r⟩:=p;have hs:=nxt_some a v r hn;simp only [told,if_true];refine Eve.ite (fun _ => ?_) (fun h => absurd (by omega) h);refine (ih r (acc ++ [⟨v.f0,v.f1,v.f2⟩]) (by omega) (by omega) (by simp;omega)).eq ?_
   cases itS m r with
   | none => rfl
   | some l => simp [toldL]
theorem tak_size (a : ByteArray) (f : Bool) (n : Nat) (_h : a.size≤1048576) (hn : n≤65535) : (takV a f n).1.size≤1048576:=by
 unfold takV
 by_cases h2 : a.size<n
 ·
  rw [if_pos h2];simp only [zer_size];omega
 rw [if_neg h2];simp only [ByteArray.size_extract];omega
theorem val_size (a : ByteArray) (f : Bool) (h : a.size≤1048576) : (rdv (valV a f)).f2.size≤1048576:=by
 have hq:=num_mono a f 1;unfold valV;generalize numV a f 1=q at hq;simp only [rdv]
 by_cases h1 : q.1=1
 ·
  rw [if_pos h1];exact Nat.zero_le _
 rw [if_neg h1]
 by_cases h2 : q.1=2
 ·
  rw [if_pos h2];exact Nat.zero_le _
 rw [if_neg h2]
 by_cases h3 : q.1=3∨q.1=4∨q.1=5
 ·
  rw [if_pos h3]
  have hr:=num_mono q.2.1 q.2.2 2;have hn:=num2_in q.2.1 q.2.2;exact tak_size _ _ _ (by omega) (by omega)
 rw [if_neg h3];exact Nat.zero_le _
theorem items_stop (acc : List IVal) (a : ByteArray) : Eve (fun k => Ff.l0 k acc a true) (acc,false):=by
 refine Eve.succ ?_;simp only [Ff.l0,if_true,Bool.not_true];exact Eve.ite (fun _ => Eve.one) (fun _ => Eve.one)
theorem items_end (acc : List IVal) (a : ByteArray) (h : a.size=0) : Eve (fun k => Ff.l0 k acc a false) (acc,true):=by
 refine Eve.succ ?_;simp only [Ff.l0,Bool.not_false];exact Eve.ite (fun _ => Eve.one) (fun h2 => absurd ((emp a).2 h) h2)
theorem items_step (acc : List IVal) (a : ByteArray) (h : 0<a.size) (hl : acc.length≤1048576) {x : List IVal×Bool}
  (hx : Eve (fun k => Ff.l0 k (acc ++ [rdv (valV a false)]) (valV a false).2.2.2.1 (valV a false).2.2.2.2) x) : Eve (fun k => Ff.l0 k acc a false) x:=by
 refine Eve.succ ?_;simp only [Ff.l0,Bool.false_eq_true,if_false];refine Eve.ite (fun h2 => absurd ((emp a).1 h2) (by omega)) (fun _ => ?_);refine Eve.bind (value_tells a false) ?_;exact Eve.ite (fun _ => hx) (fun h2 => absurd (by omega) h2)
theorem items_some : ∀ (m : Nat) (a : ByteArray) (acc l : List IVal),itS m a=some l→acc.length + a.size≤1048576→Eve (fun k => Ff.l0 k acc a false) (acc ++ l,true):=by
 intro m
 induction m with
 | zero =>
  intro a acc l h h2;simp only [itS] at h
  by_cases hz : a.size=0
  ·
   rw [if_pos hz] at h
   obtain rfl : []=l:=by simpa using h
   exact (items_end acc a hz).eq (by simp)
  rw [if_neg hz] at h;simp at h
 | succ m ih =>
  intro a acc l h h2;simp only [itS] at h
  by_cases hz : a.size=0
  ·
   rw [if_pos hz] at h
   obtain rfl : []=l:=by simpa using h
   exact (items_end acc a hz).eq (by simp)
  rw [if_neg hz] at h
  cases hn : nxtV a with
  | none => rw [hn] at h;simp at h
  | some p =>
   obtain ⟨v,r⟩:=p;rw [hn] at h;simp only [Option.map_eq_some_iff] at h;obtain ⟨l',h',rfl⟩:=h;obtain ⟨hs,hlt⟩:=nxt_some a v r hn;refine items_step acc a (by omega) (by omega) ?_;rw [hs];refine (ih r (acc ++ [rdv (v.f0,v.f1,v.f2,r,false)]) l' h' (by simp;omega)).eq ?_;simp [rdv]
theorem items_some_end : ∀ (m : Nat) (a : ByteArray) (acc : List IVal),a.size≤m→acc.length + a.size≤1048576 → ∃ l ok,Eve (fun k => Ff.l0 k acc a false) (acc ++ l,ok)∧(l.length≤a.size ∧ ∀ x ∈ l,x.f2.size≤1048576):=by
 intro m
 induction m with
 | zero => intro a acc h1 h2;exact ⟨[],true,(items_end acc a (by omega)).eq (by simp),by simp,by simp⟩
 | succ m ih =>
  intro a acc h1 h2
  by_cases hz : a.size=0
  ·
   exact ⟨[],true,(items_end acc a hz).eq (by simp),by simp,by simp⟩
  have hlt:=val_less a false (by omega);have hvs:=val_size a false (by omega)
  cases hf : (valV a false).2.2.2.2 with
  | true =>
   refine ⟨[rdv (valV a false)],false,items_step acc a (by omega) (by omega) ?_,by simp;omega,by simpa using hvs⟩;rw [hf];exact items_stop _ _
  | false =>
   obtain ⟨l,ok,hl,hl1,hl2⟩:=ih (valV a false).2.2.2.1 (acc ++ [rdv (valV a false)]) (by omega) (by simp;omega);refine ⟨rdv (valV a false) :: l,ok,items_step acc a (by omega) (by omega) ?_,by simp;omega,by simpa using ⟨hvs,hl2⟩⟩;rw [hf];exact hl.eq (by simp)
theorem items_none : ∀ (m : Nat) (a : ByteArray) (acc : List IVal),a.size≤m→itS m a=none→acc.length + a.size≤1048576 → ∃ l ok,Eve (fun k => Ff.l0 k acc a false) (acc ++ l,ok)∧(ok=false ∨ ∃ v ∈ l,Bad v)∧(l.length≤a.size ∧ ∀ x ∈ l,x.f2.size≤1048576):=by
 intro m
 induction m with
 | zero =>
  intro a acc h1 h h2;simp only [itS] at h;rw [if_pos (show a.size=0 by omega)] at h;simp at h
 | succ m ih =>
  intro a acc h1 h h2;simp only [itS] at h
  by_cases hz : a.size=0
  ·
   rw [if_pos hz] at h;simp at h
  rw [if_neg hz] at h;have hlt:=val_less a false (by omega);have hvs:=val_size a false (by omega)
  cases hn : nxtV a with
  | some p =>
   obtain ⟨v,r⟩:=p;rw [hn] at h;simp only [Option.map_eq_none_iff] at h;obtain ⟨hs,hlt⟩:=nxt_some a v r hn;rw [hs] at hvs;obtain ⟨l,ok,hl,hb,hl1,hl2⟩:=ih r (acc ++ [rdv (v.f0,v.f1,v.f2,r,false)]) (by omega) h (by simp;omega);refine ⟨rdv (v.f0,v.f1,v.f2,r,false) :: l,ok,?_,?_,by simp;omega,by simpa using ⟨hvs,hl2⟩⟩
   ·
    refine items_step acc a (by omega) (by omega) ?_
    rw [hs];exact hl.eq (by simp)
   rcases hb with hb|⟨x,hx,hb⟩
   ·
    exact .inl hb
   exact .inr ⟨x,by simp [hx],hb⟩
  | none =>
   have hv:=nxt_none a hn
   cases hf : (valV a false).2.2.2.2 with
   | true =>
    refine ⟨[rdv (valV a false)],false,items_step acc a (by omega) (by omega) ?_,.inl rfl,by simp;omega,by simpa using hvs⟩;rw [hf];exact items_stop _ _
   | false =>
    rw [hf] at hv;obtain ⟨l,ok,hl,hl1,hl2⟩:=items_some_end m (valV a false).2.2.2.1 (acc ++ [rdv (valV a false)]) (by omega) (by simp;omega);refine ⟨rdv (valV a false) :: l,ok,items_step acc a (by omega) (by omega) ?_,.inr ⟨_,by simp,hv.resolve_left (by simp)⟩,by simp;omega,by simpa using ⟨hvs,hl2⟩⟩;rw [hf];exact hl.eq (by simp)
def fdS : Nat→ByteArray→Option (List IFld)
 | 0,a => if a.size=0 then some [] else none
 | m + 1,a => if a.size=0 then some [] else if (a.size : Int)<1 + bt a 0 then none else match nxtV (a.extract (1 + bt a 0).toNat a.size) with
  | none => none
  | some (v,r) => (fdS m r).map ((⟨a.extract 1 (1 + bt a 0).toNat,v⟩ : IFld) :: ·)
def toldF (acc : List IFld) (o : Option (List IFld)) : List IFld×Bool:=match o with|some l => (acc ++ l,true)|none => ([],false)
theorem wb1 (a : ByteArray) : wrap64 (1 + bt a 0)=1 + bt a 0:=w64 (by have:=bt_range a 0;omega) (by have:=bt_range a 0;omega)
theorem fields_spec : ∀ (m : Nat) (a : ByteArray) (acc : List IFld),a.size≤m→a.size≤1048576→acc.length + a.size≤1048576→Eve (fun k => Fi.l0 k a acc) (toldF acc (fdS m a)):=by
 intro m
 induction m with
 | zero =>
  intro a acc h1 h2 h3;refine Eve.succ ?_;simp only [Fi.l0,fdS];have hz : a.size=0:=by omega
  rw [if_pos hz];exact Eve.ite (fun h => absurd h (by omega)) (fun _ => Eve.one.eq (by simp [toldF]))
 | succ m ih =>
  intro a acc h1 h2 h3;refine Eve.succ ?_;simp only [Fi.l0,fdS,wbt,wb1]
  by_cases hz : a.size=0
  ·
   rw [if_pos hz]
   exact Eve.ite (fun h => absurd h (by omega)) (fun _ => Eve.one.eq (by simp [toldF]))
  rw [if_neg hz];have hb:=bt_range a 0;refine Eve.ite (fun _ => ?_) (fun h => absurd (by omega) h);refine Eve.ite (fun _ => ?_) (fun h => absurd (by omega) h);refine Eve.ite (fun h => ?_) (fun h => ?_)
  ·
   rw [if_pos h];exact Eve.one
  rw [if_neg h];refine Eve.ite (fun _ => ?_) (fun h => absurd (by omega) h);refine Eve.ite (fun _ => ?_) (fun h => absurd (by omega) h);refine Eve.ite (fun _ => ?_) (fun h => absurd (by omega) h);have ht:=tail_size a (1 + bt a 0).toNat;refine Eve.bind (next_tells _ (by omega)) ?_
  cases hn : nxtV (a.extract (1 + bt a 0).toNat a.size) with
  | none => simp only [told,Bool.false_eq_true,if_false];exact Eve.one
  | some p =>
   obtain ⟨v,r⟩:=p;have hs:=nxt_some _ v r hn;simp only [told,if_true];refine Eve.ite (fun _ => ?_) (fun h => absurd (by omega) h);refine (ih r (acc ++ [⟨a.extract 1 (1 + bt a 0).toNat,⟨v.f0,v.f1,v.f2⟩⟩]) (by omega) (by omega) (by simp;omega)).eq ?_
   cases fdS m r with
   | none => rfl
   | some l => simp [toldF]
def fdV (a : ByteArray) : ByteArray×Rd :=
 let q:=numV a false 1
 let t:=takV q.2.1 q.2.2 q.1.toNat
 (t.1,valV t.2.1 t.2.2)
def fdv (x : ByteArray×Rd) : IFld:=⟨x.1,rdv x.2⟩
theorem fields_stop (acc : List IFld) (a : ByteArray) : Eve (fun k => F7.l0 k acc a true) (acc,false):=by
 have hj : Eve (fun k => F7.j1 k acc false a true) (acc,false):=Eve.succ (by simp only [F7.j1,Bool.false_eq_true,if_false,Bool.not_true];exact Eve.one);refine Eve.succ ?_;simp only [F7.l0,Bool.not_true];exact Eve.ite (fun _ => hj) (fun _ => hj)
theorem fields_end (acc : List IFld) (a : ByteArray) (h : a.size=0) : Eve (fun k => F7.l0 k acc a false) (acc,true):=by
 refine Eve.succ ?_;simp only [F7.l0];refine Eve.ite (fun _ => Eve.succ ?_) (fun h2 => absurd ((emp a).2 h) h2);simp only [F7.j1,Bool.false_eq_true,if_false,Bool.not_false];exact Eve.one
theorem fields_step (acc : List IFld) (a : ByteArray) (h : 0<a.size) (hl : acc.length≤1048576) {x : List IFld×Bool}
  (hx : Eve (fun k => F7.l0 k (acc ++ [fdv (fdV a)]) (fdV a).2.2.2.2.1 (fdV a).2.2.2.2.2) x) : Eve (fun k => F7.l0 k acc a false) x:=by
 refine Eve.succ ?_;simp only [F7.l0,Bool.not_false];refine Eve.ite (fun h2 => absurd ((emp a).1 h2) (by omega)) (fun _ => Eve.succ ?_);simp only [F7.j1,if_true];refine Eve.bind (num_tells a false 1 (by omega)) ?_
 have hb : 0≤(numV a false 1).1∧(numV a false 1).1≤65535:=by
  rw [num_one a false h];have:=bt_range a 0;simp only;omega
 have ht:=take_tells (numV a false 1).2.1 (numV a false 1).2.2 (numV a false 1).1.toNat (by omega);rw [show (((numV a false 1).1.toNat : Nat) : Int)=(numV a false 1).1 from Int.toNat_of_nonneg hb.1] at ht;simp only [ht,Option.bind_some];refine Eve.bind (value_tells _ _) ?_;exact Eve.ite (fun _ => hx) (fun h2 => absurd (by omega) h2)
theorem fdV_less (a : ByteArray) (h : 0<a.size) : (fdV a).2.2.2.2.1.size<a.size:=by
 unfold fdV;rw [num_one a false h];simp only;have h1:=tail_size a 1;have h2:=(tak_mono (a.extract 1 a.size) false (bt a 0).toNat).1;have h3:=(val_mono (takV (a.extract 1 a.size) false (bt a 0).toNat).2.1 (takV (a.extract 1 a.size) false (bt a 0).toNat).2.2).1;have h4:=(num_mono (takV (a.extract 1 a.size) false (bt a 0).toNat).2.1 (takV (a.extract 1 a.size) false (bt a 0).toNat).2.2 1).1
 omega
theorem fdV_ok (a : ByteArray) (h : 0<a.size) (h2 : ¬ (a.size : Int)<1 + bt a 0) : fdV a=(a.extract 1 (1 + bt a 0).toNat,valV (a.extract (1 + bt a 0).toNat a.size) false):=by
 unfold fdV;rw [num_one a false h];simp only;have hb:=bt_range a 0;have ht:=tail_size a 1;have e : (1 + bt a 0).toNat=1 + (bt a 0).toNat:=by omega
 unfold takV;rw [if_neg (by omega),e];simp only;rw [ext_ext _ _ _ _ (by omega),ext_tail _ _ _ (by omega)]
theorem fdV_bad (a : ByteArray) (h : 0<a.size) (h2 : (a.size : Int)<1 + bt a 0) : (fdV a).2.2.2.2.2=true:=by
 unfold fdV;rw [num_one a false h];simp only;have hb:=bt_range a 0;have ht:=tail_size a 1;refine (val_mono _ _).2 ?_;unfold takV;rw [if_pos (by omega)]
theorem fields_some : ∀ (m : Nat) (a : ByteArray) (acc l : List IFld),fdS m a=some l→acc.length + a.size≤1048576→Eve (fun k => F7.l0 k acc a false) (acc ++ l,true):=by
 intro m
 induction m with
 | zero =>
  intro a acc l h h2;simp only [fdS] at h
  by_cases hz : a.size=0
  ·
   rw [if_pos hz] at h
   obtain rfl : []=l:=by simpa using h
   exact (fields_end acc a hz).eq (by simp)
  rw [if_neg hz] at h;simp at h
 | succ m ih =>
  intro a acc l h h2;simp only [fdS] at h
  by_cases hz : a.size=0
  ·
   rw [if_pos hz] at h
   obtain rfl : []=l:=by simpa using h
   exact (fields_end acc a hz).eq (by simp)
  rw [if_neg hz] at h
  by_cases hy : (a.size : Int)<1 + bt a 0
  ·
   rw [if_pos hy] at h;simp at h
  rw [if_neg hy] at h
  cases hn : nxtV (a.extract (1 + bt a 0).toNat a.size) with
  | none => rw [hn] at h;simp at h
  | some p =>
   obtain ⟨v,r⟩:=p;rw [hn] at h;simp only [Option.map_eq_some_iff] at h;obtain ⟨l',h',rfl⟩:=h;obtain ⟨hs,hlt⟩:=nxt_some _ v r hn;have ht:=tail_size a (1 + bt a 0).toNat;have hb:=bt_range a 0;refine fields_step acc a (by omega) (by omega) ?_;rw [fdV_ok a (by omega) hy,hs];refine (ih r (acc ++ [fdv (a.extract 1 (1 + bt a 0).toNat,(v.f0,v.f1,v.f2,r,false))]) l' h' (by simp;omega)).eq ?_;simp [fdv,rdv]
theorem fdV_size (a : ByteArray) (h : 0<a.size) (h2 : a.size≤1048576) : (fdv (fdV a)).f0.size≤1048576∧(fdv (fdV a)).f1.f2.size≤1048576:=by
 unfold fdV fdv;rw [num_one a false h];have hb:=bt_range a 0;have ht:=tail_size a 1;have hm:=(tak_mono (a.extract 1 a.size) false (bt a 0).toNat).1;exact ⟨tak_size (a.extract 1 a.size) false (bt a 0).toNat (by omega) (by omega),val_size (takV (a.extract 1 a.size) false (bt a 0).toNat).2.1 (takV (a.extract 1 a.size) false (bt a 0).toNat).2.2 (by omega)⟩
theorem fields_some_end : ∀ (m : Nat) (a : ByteArray) (acc : List IFld),a.size≤m→acc.length + a.size≤1048576 → ∃ l ok,Eve (fun k => F7.l0 k acc a false) (acc ++ l,ok)∧(l.length≤a.size ∧ ∀ x ∈ l,x.f0.size≤1048576∧x.f1.f2.size≤1048576):=by
 intro m
 induction m with
 | zero => intro a acc h1 h2;exact ⟨[],true,(fields_end acc a (by omega)).eq (by simp),by simp,by simp⟩
 | succ m ih =>
  intro a acc h1 h2
  by_cases hz : a.size=0
  ·
   exact ⟨[],true,(fields_end acc a hz).eq (by simp),by simp,by simp⟩
  have hlt:=fdV_less a (by omega);have hvs:=fdV_size a (by omega) (by omega)
  cases hf : (fdV a).2.2.2.2.2 with
  | true =>
   refine ⟨[fdv (fdV a)],false,fields_step acc a (by omega) (by omega) ?_,by simp;omega,by simpa using hvs⟩;rw [hf];exact fields_stop _ _
  | false =>
   obtain ⟨l,ok,hl,hl1,hl2⟩:=ih (fdV a).2.2.2.2.1 (acc ++ [fdv (fdV a)]) (by omega) (by simp;omega);refine ⟨fdv (fdV a) :: l,ok,fields_step acc a (by omega) (by omega) ?_,by simp;omega,by simpa using ⟨hvs,hl2⟩⟩;rw [hf];exact hl.eq (by simp)
theorem fields_none : ∀ (m : Nat) (a : ByteArray) (acc : List IFld),a.size≤m→fdS m a=none→acc.length + a.size≤1048576 → ∃ l ok,Eve (fun k => F7.l0 k acc a false) (acc ++ l,ok)∧(ok=false ∨ ∃ v ∈ l,Bad v.f1)∧(l.length≤a.size ∧ ∀ x ∈ l,x.f0.size≤1048576∧x.f1.f2.size≤1048576):=by
 intro m
 induction m with
 | zero =>
  intro a acc h1 h h2;simp only [fdS] at h;rw [if_pos (show a.size=0 by omega)] at h;simp at h
 | succ m ih =>
  intro a acc h1 h h2;simp only [fdS] at h
  by_cases hz : a.size=0
  ·
   rw [if_pos hz] at h;simp at h
  rw [if_neg hz] at h;have hlt:=fdV_less a (by omega);have hvs:=fdV_size a (by omega) (by omega)
  by_cases hy : (a.size : Int)<1 + bt a 0
  ·
   refine ⟨[fdv (fdV a)],false,fields_step acc a (by omega) (by omega) ?_,.inl rfl,by simp;omega,by simpa using hvs⟩
   rw [fdV_bad a (by omega) hy];exact fields_stop _ _
  rw [if_neg hy] at h;have ht:=tail_size a (1 + bt a 0).toNat;have hb0:=bt_range a 0;have hok:=fdV_ok a (by omega) hy
  cases hn : nxtV (a.extract (1 + bt a 0).toNat a.size) with
  | some p =>
   obtain ⟨v,r⟩:=p;rw [hn] at h;simp only [Option.map_eq_none_iff] at h;obtain ⟨hs,hlt⟩:=nxt_some _ v r hn;rw [hok,hs] at hvs;obtain ⟨l,ok,hl,hb,hl1,hl2⟩:=ih r (acc ++ [fdv (a.extract 1 (1 + bt a 0).toNat,(v.f0,v.f1,v.f2,r,false))]) (by omega) h (by simp;omega);refine ⟨fdv (a.extract 1 (1 + bt a 0).toNat,(v.f0,v.f1,v.f2,r,false)) :: l,ok,?_,?_,by simp;omega,by simpa using ⟨hvs,hl2⟩⟩
   ·
    refine fields_step acc a (by omega) (by omega) ?_
    rw [hok,hs];exact hl.eq (by simp)
   rcases hb with hb|⟨x,hx,hb⟩
   ·
    exact .inl hb
   exact .inr ⟨x,by simp [hx],hb⟩
  | none =>
   have hv:=nxt_none _ hn
   cases hf : (fdV a).2.2.2.2.2 with
   | true =>
    refine ⟨[fdv (fdV a)],false,fields_step acc a (by omega) (by omega) ?_,.inl rfl,by simp;omega,by simpa using hvs⟩;rw [hf];exact fields_stop _ _
   | false =>
    obtain ⟨l,ok,hl,hl1,hl2⟩:=fields_some_end m (fdV a).2.2.2.2.1 (acc ++ [fdv (fdV a)]) (by omega) (by simp;omega);refine ⟨fdv (fdV a) :: l,ok,fields_step acc a (by omega) (by omega) ?_,.inr ⟨fdv (fdV a),by simp,?_⟩,by simp;omega,by simpa using ⟨hvs,hl2⟩⟩
    ·
     rw [hf]
     exact hl.eq (by simp)
    have e1 : (fdV a).2=valV (a.extract (1 + bt a 0).toNat a.size) false:=by rw [hok]
    have e2 : (fdv (fdV a)).f1=rdv (fdV a).2:=rfl;rw [e2,e1];rw [e1] at hf;rcases hv with hv|hv
    ·
     rw [hf] at hv;cases hv
    exact hv
def isL (c : Int) : Bool:=(decide (97≤c) && decide (c≤122)) || (decide (65≤c) && decide (c≤90)) || (c == 95)
def isD (c : Int) : Bool:=decide (48≤c) && decide (c≤57)
theorem specL (c : Int) : F0j.f c=some (isL c):=by
 unfold F0j.f isL
 split <;> split <;> (try split) <;> (try split) <;> simp <;> omega
theorem implL (c : Int) : F0l.f c=some (isL c):=by
 unfold F0l.f isL
 split <;> split <;> (try split) <;> (try split) <;> simp <;> omega
theorem specD (c : Int) : F0m.f c=some (isD c):=by
 unfold F0m.f isD
 split <;> simp <;> omega
theorem implD (c : Int) : F0k.f c=some (isD c):=by
 unfold F0k.f isD
 split <;> simp <;> omega
def wgo (first : Bool) : List Int→Bool
 | [] => true
 | c :: cs => (isL c || (isD c && !first)) && wgo false cs
def word (s : ByteArray) : Bool:=wgo true (bytesOf s) && (decide (1≤(s.size : Int)) && decide ((s.size : Int)≤40))
theorem word_spec (s : ByteArray) (hs : s.size≤1048576) : Eve (fun k => Fc.f k s) (word s):=by
 have hn : (bytesOf s).length=s.size:=bytesOf_length s;have hj : Eve (fun k => Fc.j0 k s true) false:=Eve.succ (by simp only [Fc.j0,if_true];exact Eve.one);simp only [Fc.f];refine Eve.ite (fun h => hj.eq ?_) (fun h => ?_)
 ·
  have : decide (1≤(s.size : Int))=false:=by simp;omega
  simp [word,this]
 refine Eve.ite (fun h2 => hj.eq ?_) (fun h2 => ?_)
 ·
  have : decide ((s.size : Int)≤40)=false:=by simp;omega
  simp [word,this]
 refine Eve.ite (fun _ => ?_) (fun h => absurd (by omega) h)
 have hw : word s=wgo true (bytesOf s):=by
  have a1 : decide (1≤(s.size : Int))=true:=by simp;omega
  have a2 : decide ((s.size : Int)≤40)=true:=by simp;omega
  simp [word,a1,a2]
 have hb:=bt_get s 0 (by omega);simp only [show ((0 : Nat) : Int)=0 from rfl] at hb;have hc : bytesOf s=bt s 0 :: (bytesOf s).drop 1:=by rw [hb];exact drop_at (bytesOf s) 0 (by omega)
 simp only [specL,Option.bind_some]
 cases hl : isL (bt s 0) with
 | false =>
  refine hj.eq ?_;rw [hw,hc];simp [wgo,hl]
 | true =>
  refine Eve.succ ?_;simp only [Fc.j0,Bool.not_true,Bool.false_eq_true,if_false]
  have:=ev_loop (bytesOf s) (fun k (_ : Unit) i => Fc.l0 k s i) (fun _ _ r => wgo false r) (fun i _ => 1≤i) (fun _ _ => by
   simp only [Fc.l0]
   exact Eve.ite (fun h => absurd h (by omega)) (fun _ => Eve.one)) (fun i hi _ hI ih => by
   have hnx:=ih () (by omega);simp only [Fc.l0,specL,specD,Option.bind_some,wi (show i≤9223372036854775806 by omega),bt_get s i hi];refine Eve.ite (fun _ => ?_) (fun h => absurd (by omega) h);refine Eve.ite (fun _ => ?_) (fun h => absurd (by omega) h);refine Eve.ite (fun h1 => hnx.eq (by simp [wgo,h1])) (fun h1 => ?_)
   exact Eve.ite (fun h2 => hnx.eq (by simp [wgo,h2])) (fun h2 => Eve.one.eq (by simp [wgo,h1,h2]))) ((bytesOf s).length - 1) 1 () (by omega) (by omega)
  refine this.eq ?_;rw [hw]
  conv => rhs;rw [hc]
  simp [wgo,hl]
theorem word_impl (s : ByteArray) (hs : s.size≤1048576) : Eve (fun k => Fn.f k s) (word s):=by
 have hn : (bytesOf s).length=s.size:=bytesOf_length s;simp only [Fn.f];refine ev_loop0 (bytesOf s) (fun k (_ : Unit) i => Fn.l0 k s (s.size : Int) i) (fun i _ r => wgo (decide (i=0)) r && (decide (1≤(s.size : Int)) && decide ((s.size : Int)≤40))) (fun _ _ => True) (fun _ _ => ?_) (fun i hi _ _ ih => ?_) () trivial
 ·
  simp only [Fn.l0]
  refine Eve.ite (fun h => absurd h (by omega)) (fun _ => Eve.all fun k => ?_);unfold F03.f
  by_cases h : 1≤(s.size : Int)
  ·
   rw [if_pos h];simp [wgo,h]
  rw [if_neg h];simp [wgo,h]
 have hnx:=ih () trivial;simp only [Nat.add_one_ne_zero,decide_false] at hnx;simp only [Fn.l0,implL,implD,Option.bind_some,wi (show i≤9223372036854775806 by omega),bt_get s i hi];refine Eve.ite (fun _ => ?_) (fun h => absurd (by omega) h);refine Eve.ite (fun _ => ?_) (fun h => absurd (by omega) h);refine Eve.ite (fun _ => ?_) (fun h => absurd (by omega) h);refine Eve.ite (fun h1 => hnx.eq (by simp [wgo,h1])) (fun h1 => ?_);refine Eve.ite (fun h2 => ?_) (fun h2 => Eve.one.eq (by simp [wgo,h1,h2]));refine Eve.ite (fun h3 => Eve.one.eq ?_) (fun h3 => hnx.eq ?_)
 ·
  obtain rfl : i=0:=by omega
  simp [wgo,h1]
 have : ¬ i=0:=by omega
 simp [wgo,h2,this]
def nam (s : ByteArray) : Bool:=word s && decide ((s.size : Int)≤12)
theorem nam_spec (s : ByteArray) (hs : s.size≤1048576) : Eve (fun k => Fz.f k s) (nam s):=by
 simp only [Fz.f,F0i.f];refine Eve.bind (v:=word s) (Eve.bind (word_spec s hs) Eve.one) ?_;refine Eve.ite (fun h => Eve.one.eq (by simp [nam,h])) (fun h => Eve.one.eq (by simp [nam,h]))
theorem nam_impl (s : ByteArray) (hs : s.size≤1048576) : Eve (fun k => F00.f k s) (nam s):=by
 simp only [F00.f];refine Eve.ite (fun h => (Eve.bind (word_impl s hs) Eve.one).eq (by simp [nam,h])) (fun h => Eve.one.eq (by simp [nam,h]))
def nms : Option ByteArray→List IFld→Bool
 | _,[] => true
 | p,f :: fs => nam f.f0 && ((match p with|none => true|some q => Op.bytesLess q.toList f.f0.toList) && nms (some f.f0) fs)
def inr (a b c : Int) : Bool:=decide (b≤a) && decide (a≤c)
theorem in_spec (a b c : Int) : F09.f a b c=some (inr a b c):=by
 unfold F09.f inr
 by_cases h : b≤a
 ·
  rw [if_pos h];simp [h]
 rw [if_neg h];simp [h]
theorem in_impl (a b c : Int) : F03.f a b c=some (inr a b c):=in_spec a b c
abbrev emB (a : ByteArray) : Bool:=a.toList == ([] : List UInt8)
def flat (v : IVal) : Bool :=
 if v.f0=0 then decide (v.f1=0) && emB v.f2
 else if v.f0=1 then inr v.f1 0 1 && emB v.f2
 else if v.f0=2 then inr v.f1 (-1000000000000) 1000000000000 && emB v.f2
 else if v.f0=3 then decide (v.f1=0) && decide ((v.f2.size : Int)≤300)
 else false
def rightV : Nat→IVal→Bool
 | 0,v => flat v
 | d + 1,v =>
  if v.f0=4 then decide (v.f1=0) && (decide ((v.f2.size : Int)≤300) && (match itS v.f2.size v.f2 with|some l => l.all (rightV d)|none => false))
  else if v.f0=5 then decide (v.f1=0) && (decide ((v.f2.size : Int)≤300) && (match fdS v.f2.size v.f2 with|some l => nms none l && l.all (fun f => rightV d f.f1)|none => false))
  else flat v
theorem bad_right (v : IVal) (h : Bad v) : ∀ d,rightV d v=false:=by
 have hf : flat v=false:=by
  unfold flat;rcases h with h|h|⟨h,h2⟩
  ·
   rw [if_neg (by omega),if_neg (by omega),if_neg (by omega),if_neg (by omega)]
  ·
   rw [if_neg (by omega),if_neg (by omega),if_neg (by omega),if_neg (by omega)]
  rw [if_neg (by omega),if_neg (by omega),if_pos h];have : inr v.f1 (-1000000000000) 1000000000000=false:=by unfold inr;simp;omega
  rw [this];rfl
 intro d
 cases d with
 | zero => exact hf
 | succ d =>
  unfold rightV;rcases h with h|h|⟨h,h2⟩
  ·
   rw [if_neg (by omega),if_neg (by omega)];exact hf
  ·
   rw [if_neg (by omega),if_neg (by omega)];exact hf
  rw [if_neg (by omega),if_neg (by omega)];exact hf
theorem rdV (l : List IVal) (i : Nat) (h : i<l.length) : rd_T31 l (i : Int)=l[i]:=getD_at _ l i h
theorem rdF (l : List IFld) (i : Nat) (h : i<l.length) : rd_T70 l (i : Int)=l[i]:=getD_at _ l i h
theorem its_size : ∀ (m : Nat) (a : ByteArray) (l : List IVal),itS m a=some l→a.size≤1048576→l.length≤a.size ∧ ∀ x ∈ l,x.f2.size≤1048576:=by
 intro m
 induction m with
 | zero =>
  intro a l h h2;simp only [itS] at h
  by_cases hz : a.size=0
  ·
   rw [if_pos hz] at h
   obtain rfl : []=l:=by simpa using h
   simp
  rw [if_neg hz] at h;simp at h
 | succ m ih =>
  intro a l h h2;simp only [itS] at h
  by_cases hz : a.size=0
  ·
   rw [if_pos hz] at h
   obtain rfl : []=l:=by simpa using h
   simp
  rw [if_neg hz] at h
  cases hn : nxtV a with
  | none => rw [hn] at h;simp at h
  | some p =>
   obtain ⟨v,r⟩:=p;rw [hn] at h;simp only [Option.map_eq_some_iff] at h;obtain ⟨l',h',rfl⟩:=h;obtain ⟨hs,hlt⟩:=nxt_some a v r hn;have hv:=val_size a false h2;rw [hs] at hv;obtain ⟨i1,i2⟩:=ih r l' h' (by omega);refine ⟨by simp;omega,fun x hx => ?_⟩;rcases List.mem_cons.1 hx with rfl|hx
   ·
    exact hv
   exact i2 x hx
theorem fds_size : ∀ (m : Nat) (a : ByteArray) (l : List IFld),fdS m a=some l→a.size≤1048576→l.length≤a.size ∧ ∀ x ∈ l,x.f0.size≤1048576∧x.f1.f2.size≤1048576:=by
 intro m
 induction m with
 | zero =>
  intro a l h h2;simp only [fdS] at h
  by_cases hz : a.size=0
  ·
   rw [if_pos hz] at h
   obtain rfl : []=l:=by simpa using h
   simp
  rw [if_neg hz] at h;simp at h
 | succ m ih =>
  intro a l h h2;simp only [fdS] at h
  by_cases hz : a.size=0
  ·
   rw [if_pos hz] at h
   obtain rfl : []=l:=by simpa using h
   simp
  rw [if_neg hz] at h
  by_cases hy : (a.size : Int)<1 + bt a 0
  ·
   rw [if_pos hy] at h;simp at h
  rw [if_neg hy] at h;have ht:=tail_size a (1 + bt a 0).toNat;have hb:=bt_range a 0
  cases hn : nxtV (a.extract (1 + bt a 0).toNat a.size) with
  | none => rw [hn] at h;simp at h
  | some p =>
   obtain ⟨v,r⟩:=p;rw [hn] at h;simp only [Option.map_eq_some_iff] at h;obtain ⟨l',h',rfl⟩:=h;obtain ⟨hs,hlt⟩:=nxt_some _ v r hn;have hv:=val_size (a.extract (1 + bt a 0).toNat a.size) false (by omega);rw [hs] at hv;obtain ⟨i1,i2⟩:=ih r l' h' (by omega);refine ⟨by simp;omega,fun x hx => ?_⟩;rcases List.mem_cons.1 hx with rfl|hx
   ·
    exact ⟨by simp only [ByteArray.size_extract];omega,hv⟩
   exact i2 x hx
theorem dn (d : Nat) (h : d≤1000) : wrap64 (((d + 1 : Nat) : Int) - 1)=(d : Int):=by rw [w64 (by omega) (by omega)];omega
theorem spec_flat (v : IVal) (e : Int) (h4 : v.f0≠4) (h5 : v.f0≠5) : Eve (fun k => F0.f k v.f0 v.f1 v.f2 e) (flat v):=by
 refine Eve.succ ?_;simp only [F0.f,in_spec,Option.bind_some];unfold flat;refine Eve.ite (fun h => ?_) (fun h => ?_)
 ·
  rw [if_pos h]
  exact Eve.ite (fun h => Eve.one.eq (by simp [h])) (fun h => Eve.one.eq (by simp [h]))
 rw [if_neg h];refine Eve.ite (fun h => ?_) (fun h => ?_)
 ·
  rw [if_pos h]
  exact Eve.ite (fun h => Eve.one.eq (by simp [h])) (fun h => Eve.one.eq (by simp [h]))
 rw [if_neg h];refine Eve.ite (fun h => ?_) (fun h => ?_)
 ·
  rw [if_pos h]
  exact Eve.ite (fun h => Eve.one.eq (by simp [h])) (fun h => Eve.one.eq (by simp [h]))
 rw [if_neg h];refine Eve.ite (fun h => ?_) (fun h => ?_)
 ·
  rw [if_pos h]
  exact Eve.ite (fun h => Eve.one.eq (by simp [h])) (fun h => Eve.one.eq (by simp [h]))
 rw [if_neg h];refine Eve.ite (fun h => absurd h h4) (fun _ => ?_);exact Eve.ite (fun h => absurd h h5) (fun _ => Eve.one)
theorem impl_flat (v : IVal) (e : Int) (h4 : v.f0≠4) (h5 : v.f0≠5) : Eve (fun k => F5.f k v.f0 v.f1 v.f2 e) (flat v):=by
 refine Eve.succ ?_;simp only [F5.f,F0o.f,in_impl,Option.bind_some];unfold flat;refine Eve.ite (fun h => ?_) (fun h => ?_)
 ·
  rw [if_pos h]
  exact Eve.one.eq (by rw [h];by_cases h1 : v.f1=0 <;> simp [h1])
 rw [if_neg h];refine Eve.ite (fun h => ?_) (fun h => ?_)
 ·
  rw [if_pos h]
  exact Eve.ite (fun h => Eve.one.eq (by simp [h])) (fun h => Eve.one.eq (by simp [h]))
 rw [if_neg h];refine Eve.ite (fun h => ?_) (fun h => ?_)
 ·
  rw [if_pos h]
  exact Eve.ite (fun h => Eve.one.eq (by simp [h])) (fun h => Eve.one.eq (by simp [h]))
 rw [if_neg h];refine Eve.ite (fun h => ?_) (fun h => ?_)
 ·
  rw [if_pos h]
  exact Eve.ite (fun h => Eve.one.eq (by simp [h])) (fun h => Eve.one.eq (by simp [h]))
 rw [if_neg h];refine Eve.ite (fun h => absurd h h4) (fun _ => ?_);have : (v.f0 == 5)=false:=by simpa using h5
 simp only [this];refine Eve.succ ?_;simp only [F5.j0,Bool.false_eq_true,if_false];exact Eve.one
theorem spec_j0_true (e : Int) (l : List IVal) : Eve (fun k => F0.j0 k e l true) false:=Eve.succ (by simp only [F0.j0,if_true];exact Eve.one)
theorem spec_j2_true (e : Int) (l : List IFld) : Eve (fun k => F0.j2 k e l true) false:=Eve.succ (by simp only [F0.j2,if_true];exact Eve.one)
theorem right_spec : ∀ (d : Nat) (v : IVal),d≤1000→v.f2.size≤1048576→Eve (fun k => F0.f k v.f0 v.f1 v.f2 (d : Int)) (rightV d v):=by
 intro d
 induction d with
 | zero =>
  intro v hd hs
  by_cases h4 : v.f0=4
  ·
   have hf : flat v=false:=by unfold flat;rw [if_neg (by omega),if_neg (by omega),if_neg (by omega),if_neg (by omega)]
   show Eve _ (flat v);rw [hf];refine Eve.succ ?_;simp only [F0.f,h4];simp only [show ¬ (4 : Int)=0 by omega,show ¬ (4 : Int)=1 by omega,show ¬ (4 : Int)=2 by omega,show ¬ (4 : Int)=3 by omega,if_false,if_true];simp only [Fj.f];refine Eve.bind (items_spec _ v.f2 [] (Nat.le_refl _) hs (by simp;omega)) ?_;have hj:=spec_j0_true ((0 : Nat) : Int) (toldL [] (itS v.f2.size v.f2)).1;refine Eve.ite (fun _ => ?_) (fun _ => hj);refine Eve.ite (fun _ => ?_) (fun _ => hj);exact Eve.ite (fun _ => hj) (fun _ => hj)
  by_cases h5 : v.f0=5
  ·
   have hf : flat v=false:=by unfold flat;rw [if_neg (by omega),if_neg (by omega),if_neg (by omega),if_neg (by omega)]
   show Eve _ (flat v);rw [hf];refine Eve.succ ?_;simp only [F0.f,h5];simp only [show ¬ (5 : Int)=0 by omega,show ¬ (5 : Int)=1 by omega,show ¬ (5 : Int)=2 by omega,show ¬ (5 : Int)=3 by omega,show ¬ (5 : Int)=4 by omega,if_false,if_true];simp only [Fi.f];refine Eve.bind (fields_spec _ v.f2 [] (Nat.le_refl _) hs (by simp;omega)) ?_;have hj:=spec_j2_true ((0 : Nat) : Int) (toldF [] (fdS v.f2.size v.f2)).1;refine Eve.ite (fun _ => ?_) (fun _ => hj);refine Eve.ite (fun _ => ?_) (fun _ => hj);exact Eve.ite (fun _ => hj) (fun _ => hj)
  exact spec_flat v _ h4 h5
 | succ d ih =>
  intro v hd hs;have he : (((d + 1 : Nat) : Int) == 0)=false:=by simp;omega
  by_cases h4 : v.f0=4
  ·
   unfold rightV
   rw [if_pos h4];refine Eve.succ ?_;simp only [F0.f,h4];simp only [show ¬ (4 : Int)=0 by omega,show ¬ (4 : Int)=1 by omega,show ¬ (4 : Int)=2 by omega,show ¬ (4 : Int)=3 by omega,if_false,if_true];simp only [Fj.f];refine Eve.bind (items_spec _ v.f2 [] (Nat.le_refl _) hs (by simp;omega)) ?_;have hj:=spec_j0_true ((d + 1 : Nat) : Int) (toldL [] (itS v.f2.size v.f2)).1;refine Eve.ite (fun h1 => ?_) (fun h1 => hj.eq (by simp [h1]))
   cases hi : itS v.f2.size v.f2 with
   | none =>
    rw [hi] at hj;simp only [toldL,Bool.false_eq_true,if_false];exact hj.eq (by simp)
   | some l =>
    rw [hi] at hj;simp only [toldL,if_true,List.nil_append] at hj ⊢;refine Eve.ite (fun h2 => hj.eq ?_) (fun h2 => ?_)
    ·
     have : decide ((v.f2.size : Int)≤300)=false:=by simp;omega
     simp [this]
    obtain ⟨hl1,hl2⟩:=its_size _ _ l hi hs;have hsz : decide ((v.f2.size : Int)≤300)=true:=by simp;omega
    simp only [he];refine Eve.succ ?_;simp only [F0.j0,Bool.false_eq_true,if_false]
    have:=ev_loop0 l (fun k (_ : Unit) i => F0.l0 k ((d + 1 : Nat) : Int) l i) (fun _ _ r => r.all (rightV d)) (fun _ _ => True) (fun _ _ => by
     simp only [F0.l0]
     exact Eve.ite (fun h => absurd h (by omega)) (fun _ => Eve.one)) (fun i hi _ _ ih2 => by
     simp only [F0.l0];refine Eve.ite (fun _ => ?_) (fun h => absurd (by omega) h);refine Eve.ite (fun _ => ?_) (fun h => absurd (by omega) h);simp only [rdV l i hi,dn d (by omega),wi (show i≤9223372036854775806 by omega)];refine Eve.bind (ih l[i] (by omega) (hl2 _ (List.getElem_mem hi))) ?_
     exact Eve.ite (fun h => (ih2 () trivial).eq (by rw [List.all_cons,h,Bool.true_and])) (fun h => Eve.one.eq (by rw [List.all_cons,Bool.eq_false_iff.mpr h,Bool.false_and]))) () trivial
    exact this.eq (by simp [h1,hsz])
  by_cases h5 : v.f0=5
  ·
   unfold rightV
   rw [if_neg h4,if_pos h5];refine Eve.succ ?_;simp only [F0.f,h5];simp only [show ¬ (5 : Int)=0 by omega,show ¬ (5 : Int)=1 by omega,show ¬ (5 : Int)=2 by omega,show ¬ (5 : Int)=3 by omega,show ¬ (5 : Int)=4 by omega,if_false,if_true];simp only [Fi.f];refine Eve.bind (fields_spec _ v.f2 [] (Nat.le_refl _) hs (by simp;omega)) ?_;have hj:=spec_j2_true ((d + 1 : Nat) : Int) (toldF [] (fdS v.f2.size v.f2)).1;refine Eve.ite (fun h1 => ?_) (fun h1 => hj.eq (by simp [h1]))
   cases hi : fdS v.f2.size v.f2 with
   | none =>
    rw [hi] at hj;simp only [toldF,Bool.false_eq_true,if_false];exact hj.eq (by simp)
   | some l =>
    rw [hi] at hj;simp only [toldF,if_true,List.nil_append] at hj ⊢;refine Eve.ite (fun h2 => hj.eq ?_) (fun h2 => ?_)
    ·
     have : decide ((v.f2.size : Int)≤300)=false:=by simp;omega
     simp [this]
    obtain ⟨hl1,hl2⟩:=fds_size _ _ l hi hs;have hsz : decide ((v.f2.size : Int)≤300)=true:=by simp;omega
    simp only [he];refine Eve.succ ?_;simp only [F0.j2,Bool.false_eq_true,if_false]
    have:=ev_loop0 l (fun k (_ : Unit) i => F0.l1 k ((d + 1 : Nat) : Int) l i) (fun i _ r => nms (if i=0 then none else some (l.getD (i - 1) z70).f0) r && r.all (fun f => rightV d f.f1)) (fun _ _ => True) (fun _ _ => by
     simp only [F0.l1]
     exact Eve.ite (fun h => absurd h (by omega)) (fun _ => Eve.one.eq (by simp [nms]))) (fun i hi _ _ ih2 => by
     have hnx:=ih2 () trivial;simp only [Nat.add_one_ne_zero,if_false,Nat.add_sub_cancel,List.getD_eq_getElem?_getD,List.getElem?_eq_getElem hi,Option.getD_some] at hnx;simp only [F0.l1];refine Eve.ite (fun _ => ?_) (fun h => absurd (by omega) h);refine Eve.ite (fun _ => ?_) (fun h => absurd (by omega) h);have hm:=hl2 _ (List.getElem_mem hi);simp only [rdF l i hi,dn d (by omega),wi (show i≤9223372036854775806 by omega)];refine Eve.bind (nam_spec _ hm.1) ?_;refine Eve.ite (fun hn => ?_) (fun hn => Eve.one.eq (by simp [nms,hn]));refine Eve.ite (fun h3 => ?_) (fun h3 => ?_)
     ·
      have hw : wrap64 ((i : Int) - 1)=((i - 1 : Nat) : Int):=by rw [w64 (by omega) (by omega)];omega
      simp only [hw];refine Eve.ite (fun _ => ?_) (fun h => absurd (by omega) h);refine Eve.ite (fun _ => ?_) (fun h => absurd (by omega) h);rw [if_neg (by omega),List.getD_eq_getElem?_getD,List.getElem?_eq_getElem (show i - 1<l.length by omega),Option.getD_some];simp only [rdF l (i - 1) (show i - 1<l.length by omega)];refine Eve.ite (fun h6 => ?_) (fun h6 => Eve.one.eq (by simp [nms,h6]));refine Eve.bind (ih l[i].f1 (by omega) hm.2) ?_;exact Eve.ite (fun h => hnx.eq (by simp only [nms,hn,h6,List.all_cons,h,Bool.true_and])) (fun h => Eve.one.eq (by rw [List.all_cons,Bool.eq_false_iff.mpr h,Bool.false_and,Bool.and_false]))
     obtain rfl : i=0:=by omega
     rw [if_pos rfl];refine Eve.bind (ih l[0].f1 (by omega) hm.2) ?_
     exact Eve.ite (fun h => hnx.eq (by simp [nms,hn,h])) (fun h => Eve.one.eq (by simp [h]))) () trivial
    rw [if_pos rfl] at this;exact this.eq (by simp [h1,hsz])
  unfold rightV;rw [if_neg h4,if_neg h5];exact spec_flat v _ h4 h5
theorem bytes_cut (a : ByteArray) (i j : Nat) : bytesOf (a.extract i j)=((bytesOf a).drop i).take (j - i):=by
 unfold bytesOf;rw [ByteArray.data_extract,Array.toList_extract,List.map_take,List.map_drop] <;> rfl
theorem bytes_inj {a b : ByteArray} (h : bytesOf a=bytesOf b) : a=b:=by
 have h2 : a.data.toList=b.data.toList:=by
  refine (List.map_inj_right (fun x y hxy => ?_)).1 h;exact UInt8.toNat_inj.1 (by exact_mod_cast hxy)
 cases a;cases b
 simp only [ByteArray.mk.injEq];exact Array.toList_inj.1 h2
theorem nxt_cases (a : ByteArray) (v : IVal) (r : ByteArray) (h : nxtV a=some (v,r)) : ∃ n,n≤a.size∧0<n∧r=a.extract n a.size∧v.f0=bt a 0 ∧
  ((v.f0=0∧n=1)∨(v.f0=1∧n=2∧v.f1=bt a 1)∨(v.f0=2∧n=9∧bt a 1≤127∧v.f1=wrap64 (bigV (bytesOf (a.extract 1 9)) - 4611686018427387904)) ∨
   (3≤v.f0∧v.f0≤5∧n=3 + v.f2.size∧bigV (bytesOf (a.extract 1 3))=v.f2.size∧v.f2=a.extract 3 n)):=by
 unfold nxtV at h
 by_cases hs : a.size=0
 ·
  rw [if_pos hs] at h;cases h
 rw [if_neg hs] at h
 by_cases h0 : bt a 0=0
 ·
  rw [if_pos h0,Option.some.injEq,Prod.mk.injEq] at h
  obtain ⟨rfl,rfl⟩:=h;exact ⟨1,by omega,by omega,rfl,h0.symm,.inl ⟨rfl,rfl⟩⟩
 rw [if_neg h0] at h
 by_cases h1 : bt a 0=1
 ·
  rw [if_pos h1] at h
  by_cases h2 : a.size<2
  ·
   rw [if_pos h2] at h;cases h
  rw [if_neg h2,Option.some.injEq,Prod.mk.injEq] at h;obtain ⟨rfl,rfl⟩:=h;exact ⟨2,by omega,by omega,rfl,h1.symm,.inr (.inl ⟨rfl,rfl,rfl⟩)⟩
 rw [if_neg h1] at h
 by_cases h2 : bt a 0=2
 ·
  rw [if_pos h2] at h
  by_cases h3 : a.size<9
  ·
   rw [if_pos h3] at h;cases h
  rw [if_neg h3] at h
  by_cases h4 : bt a 1 > 127
  ·
   rw [if_pos h4] at h;cases h
  rw [if_neg h4,Option.some.injEq,Prod.mk.injEq] at h;obtain ⟨rfl,rfl⟩:=h;exact ⟨9,by omega,by omega,rfl,h2.symm,.inr (.inr (.inl ⟨rfl,rfl,by omega,rfl⟩))⟩
 rw [if_neg h2] at h
 by_cases h3 : bt a 0=3∨bt a 0=4∨bt a 0=5
 ·
  rw [if_pos h3] at h
  by_cases h4 : a.size<3
  ·
   rw [if_pos h4] at h;cases h
  rw [if_neg h4] at h
  by_cases h5 : (a.size : Int)<3 + bigV (bytesOf (a.extract 1 3))
  ·
   rw [if_pos h5] at h;cases h
  rw [if_neg h5,Option.some.injEq,Prod.mk.injEq] at h;obtain ⟨rfl,rfl⟩:=h;have hb : 0≤bigV (bytesOf (a.extract 1 3)):=(bytes_ext2 a 1 (by omega)).1
  have hz : (a.extract 3 (3 + bigV (bytesOf (a.extract 1 3))).toNat).size=(bigV (bytesOf (a.extract 1 3))).toNat:=by
   rw [ByteArray.size_extract];omega
  refine ⟨(3 + bigV (bytesOf (a.extract 1 3))).toNat,by omega,by omega,rfl,rfl,.inr (.inr (.inr ⟨?_,?_,?_,?_,rfl⟩))⟩
  ·
   show 3≤bt a 0;omega
  ·
   show bt a 0≤5;omega
  ·
   show _=3 + (a.extract 3 (3 + bigV (bytesOf (a.extract 1 3))).toNat).size
   rw [hz];omega
  show _=(((a.extract 3 (3 + bigV (bytesOf (a.extract 1 3))).toNat).size : Nat) : Int);rw [hz];omega
 rw [if_neg h3] at h;cases h
theorem str_app (a b : List Int) : strOfNums (a ++ b)=strOfNums a ++ strOfNums b:=by
 apply ba_ext;rw [ba_toList,ba_toList,ByteArray.data_append,Array.toList_append,strOfNums_data,strOfNums_data,strOfNums_data,List.map_append]
theorem bytes_str (l : List Int) (h : ∀ b ∈ l,0≤b∧b≤255) : bytesOf (strOfNums l)=l:=by
 rw [bytesOf,strOfNums_data,List.map_map]
 conv => rhs;rw [← List.map_id l]
 refine List.map_congr_left (fun b hb => ?_);have:=h b hb;show (((UInt8.ofNat b.toNat).toNat : Nat) : Int)=b;rw [UInt8.toNat_ofNat']
 omega
abbrev Byts (l : List Int) : Prop:=∀ b ∈ l,0≤b∧b≤255
theorem bt_of (l : List Int) (hl : Byts l) (i : Nat) (h : i<l.length) : bt (strOfNums l) (i : Int)=l[i]:=by
 have hz:=bytes_str l hl;have:=bt_get (strOfNums l) i (by rw [hz];exact h);simp only [hz] at this;exact this
theorem ext_of (l : List Int) (hl : Byts l) (i j : Nat) : (strOfNums l).extract i j=strOfNums ((l.drop i).take (j - i)):=by
 apply bytes_inj;rw [bytes_cut,bytes_str l hl,bytes_str _ (fun b hb => hl b (List.mem_of_mem_drop (List.mem_of_mem_take hb)))]
theorem right_four {d : Nat} {v : IVal} (h : rightV d v=true) (h4 : v.f0=4) : ∃ e l,d=e + 1∧itS v.f2.size v.f2=some l∧l.all (rightV e)=true:=by
 cases d with
 | zero =>
  have : flat v=true:=h;unfold flat at this;rw [if_neg (by omega),if_neg (by omega),if_neg (by omega),if_neg (by omega)] at this
  cases this
 | succ e =>
  unfold rightV at h;rw [if_pos h4] at h
  cases hi : itS v.f2.size v.f2 with
  | none => rw [hi] at h;simp at h
  | some l =>
   rw [hi] at h;simp only [Bool.and_eq_true] at h;exact ⟨e,l,rfl,rfl,h.2.2⟩
theorem right_five {d : Nat} {v : IVal} (h : rightV d v=true) (h5 : v.f0=5) : ∃ e l,d=e + 1∧fdS v.f2.size v.f2=some l∧nms none l=true∧l.all (fun f => rightV e f.f1)=true:=by
 have h4 : ¬ v.f0=4:=by omega
 cases d with
 | zero =>
  have : flat v=true:=h;unfold flat at this;rw [if_neg (by omega),if_neg (by omega),if_neg (by omega),if_neg (by omega)] at this
  cases this
 | succ e =>
  unfold rightV at h;rw [if_neg h4,if_pos h5] at h
  cases hi : fdS v.f2.size v.f2 with
  | none => rw [hi] at h;simp at h
  | some l =>
   rw [hi] at h;simp only [Bool.and_eq_true] at h;exact ⟨e,l,rfl,rfl,h.2.2.1,h.2.2.2⟩
theorem filled {α : Type} (ys : List α) (n : Nat) (c : Nat→α) (h1 : ys.length=n) (h2 : ∀ j,j<n→ys[j]? = some (c j)) : ys=(List.range n).map c:=by
 apply List.ext_getElem?
 intro j
 by_cases hj : j<n
 ·
  rw [h2 j hj];simp [hj]
 rw [List.getElem?_eq_none (by omega),List.getElem?_eq_none (by simp;omega)]
theorem fill_next {α : Type} (ys : List α) (i : Nat) (c : Nat→α) (h1 : i<ys.length) (h2 : ∀ j,j<i→ys[j]? = some (c j)) : ∀ j,j<i + 1→(ys.set i (c i))[j]? = some (c j):=by
 intro j hj
 by_cases h : j=i
 ·
  subst h;simp [h1]
 rw [List.getElem?_set_ne (by omega)];exact h2 j (by omega)
def Shape (v : IVal) : Prop :=
 (v.f0=0∧v.f1=0∧v.f2=eB)∨(v.f0=1∧(0≤v.f1∧v.f1≤1)∧v.f2=eB)∨(v.f0=2∧(-1000000000000≤v.f1∧v.f1≤1000000000000)∧v.f2=eB)∨((3≤v.f0∧v.f0≤5)∧v.f1=0∧v.f2.size≤300)
theorem em_is {a : ByteArray} (h : emB a=true) : a=eB:=ba_ext (by rw [show a.toList=([] : List UInt8) from eq_of_beq h,ba_toList])
theorem flat_shape {v : IVal} (h : flat v=true) : Shape v:=by
 unfold flat at h;unfold Shape
 by_cases q0 : v.f0=0
 ·
  rw [if_pos q0,Bool.and_eq_true,decide_eq_true_eq] at h
  exact .inl ⟨q0,h.1,em_is h.2⟩
 rw [if_neg q0] at h
 by_cases q1 : v.f0=1
 ·
  rw [if_pos q1,Bool.and_eq_true] at h
  have h1:=h.1;unfold inr at h1;rw [Bool.and_eq_true,decide_eq_true_eq,decide_eq_true_eq] at h1;exact .inr (.inl ⟨q1,h1,em_is h.2⟩)
 rw [if_neg q1] at h
 by_cases q2 : v.f0=2
 ·
  rw [if_pos q2,Bool.and_eq_true] at h
  have h1:=h.1;unfold inr at h1;rw [Bool.and_eq_true,decide_eq_true_eq,decide_eq_true_eq] at h1;exact .inr (.inr (.inl ⟨q2,h1,em_is h.2⟩))
 rw [if_neg q2] at h
 by_cases q3 : v.f0=3
 ·
  rw [if_pos q3,Bool.and_eq_true,decide_eq_true_eq,decide_eq_true_eq] at h
  exact .inr (.inr (.inr ⟨by omega,h.1,by omega⟩))
 rw [if_neg q3] at h;cases h
theorem right_shape : ∀ (d : Nat) (v : IVal),rightV d v=true→Shape v:=by
 intro d v h
 cases d with
 | zero => exact flat_shape h
 | succ d =>
  unfold rightV at h
  by_cases h4 : v.f0=4
  ·
   rw [if_pos h4,Bool.and_eq_true,Bool.and_eq_true,decide_eq_true_eq,decide_eq_true_eq] at h
   exact .inr (.inr (.inr ⟨by omega,h.1,by omega⟩))
  rw [if_neg h4] at h
  by_cases h5 : v.f0=5
  ·
   rw [if_pos h5,Bool.and_eq_true,Bool.and_eq_true,decide_eq_true_eq,decide_eq_true_eq] at h
   exact .inr (.inr (.inr ⟨by omega,h.1,by omega⟩))
  rw [if_neg h5] at h;exact flat_shape h
def dig (x : Int) : Nat→List Int
 | 0 => []
 | m + 1 => (shr .i64 x (8 * (m : Int)) % 256) :: dig x m
theorem dig_in (x : Int) : ∀ m,∀ b ∈ dig x m,0≤b∧b≤255
 | 0 => fun b hb => by simp [dig] at hb
 | m + 1 => fun b hb => by
  rcases List.mem_cons.1 hb with rfl|hb
  ·
   omega
  exact dig_in x m b hb
theorem dig_length (x : Int) : ∀ m,(dig x m).length=m
 | 0 => rfl
 | m + 1 => by rw [dig,List.length_cons,dig_length x m]
theorem shr_at (x : Int) (m : Nat) (h : m≤8) : shr .i64 x (8 * (m : Int))=x / 2 ^ (8 * m):=by
 unfold shr;have e1 : (8 * (m : Int)).toNat=8 * m:=by omega
 have e2 : min (8 * m) (IntKind.bits .i64)=8 * m:=Nat.min_eq_left (by show 8 * m≤64;omega);rw [e1,e2]
theorem shr_zero (x : Int) : shr .i64 x (8 * ((0 : Nat) : Int))=x:=by rw [shr_at x 0 (by omega)];simp
theorem u64_at (m : Nat) (h : m≤8) : IntKind.u64.wrap (wrap64 (8 * (m : Int)))=8 * (m : Int):=by
 rw [w64 (by omega) (by omega)];rw [show IntKind.u64.wrap (8 * (m : Int))=(8 * (m : Int)) % 18446744073709551616 from rfl]
 omega
theorem number_loop (x : Int) : ∀ (m : Nat) (acc : List Int),m≤8→acc.length + m≤100→Eve (fun k => F8.l0 k x acc ((m : Int) - 1)) (strOfNums (acc ++ dig x m)):=by
 intro m
 induction m with
 | zero =>
  intro acc _ _;refine Eve.succ ?_;simp only [F8.l0];exact Eve.ite (fun h => absurd h (by omega)) (fun _ => Eve.one.eq (by simp [dig]))
 | succ m ih =>
  intro acc h1 h2;refine Eve.succ ?_;simp only [F8.l0,show ((m + 1 : Nat) : Int) - 1=(m : Int) by omega,u64_at m (by omega),w64 (show -9223372036854775808≤(m : Int) - 1 by omega) (by omega)];refine Eve.ite (fun _ => ?_) (fun h => absurd (by omega) h);refine Eve.ite (fun _ => ?_) (fun h => absurd (by omega) h);refine Eve.ite (fun _ => ?_) (fun h => absurd (by omega) h);exact (ih _ (by omega) (by simp;omega)).eq (by simp [dig])
theorem number_tells (x : Int) (n : Nat) (h : n≤8) : Eve (fun k => F8.f k x (n : Int)) (strOfNums (dig x n)):=by
 simp only [F8.f,w64 (show -9223372036854775808≤(n : Int) - 1 by omega) (by omega)];exact (number_loop x n [] h (by simp;omega)).eq (by simp)
def dig8 (x : Int) (i : Nat) : Int:=shr .i64 x (56 - 8 * (i : Int)) % 256
theorem eight_tells (x : Int) : Eve (fun k => Fp.f k x) (dig x 8):=by
 simp only [Fp.f];refine Eve.ite (fun _ => ?_) (fun h => absurd (by decide) h);have hl : (List.replicate 8 (0 : Int)).length=8:=by simp
 have he : (List.range 8).map (dig8 x)=dig x 8:=rfl;refine ev_loop0 (List.replicate 8 (0 : Int)) (fun k (s : List Int) i => Fp.l0 k x s i) (fun _ _ _ => dig x 8) (fun i s => s.length=8 ∧ ∀ j,j<i→s[j]? = some (dig8 x j)) (fun s hs => ?_) (fun i hi s hs ih => ?_) (List.replicate 8 0) ⟨hl,by intro j hj;omega⟩
 ·
  simp only [Fp.l0]
  refine Eve.ite (fun h => absurd h (by omega)) (fun _ => Eve.one.eq ?_);rw [← he];exact filled s 8 _ hs.1 (fun j hj => hs.2 j (by omega))
 obtain ⟨h1,h2⟩:=hs;have hi8 : i<8:=by omega
 have e1 : wrap64 (8 * (i : Int))=8 * (i : Int):=w64 (by omega) (by omega);have e2 : wrap64 (56 - 8 * (i : Int))=56 - 8 * (i : Int):=w64 (by omega) (by omega);simp only [Fp.l0,e1,e2,Int.toNat_natCast,wi (show i≤9223372036854775806 by omega)];refine Eve.ite (fun _ => ?_) (fun h => absurd (by omega) h);refine Eve.ite (fun _ => ?_) (fun h => absurd (by omega) h);refine Eve.ite (fun _ => ?_) (fun h => absurd (by omega) h);refine Eve.ite (fun _ => ?_) (fun h => absurd (by omega) h);exact ih (s.set i (dig8 x i)) ⟨by simpa using h1,fill_next s i (dig8 x) (by omega) h2⟩
end Go.Proofs.YthjgfjlogilleabDoor.Pure
end

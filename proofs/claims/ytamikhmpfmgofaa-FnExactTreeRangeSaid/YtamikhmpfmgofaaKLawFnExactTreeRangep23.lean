/- Texts of this claim, merged by a program of this session. -/
import Derived.Test.YtamikhmpfmgofaaKLawFnExactTreeRangep22
section
namespace Go.Proofs.Ytamikhmpfmgofaa.Q
open Go.RowKit Go.Proofs.YtamikhmpfmgofaaW.PrintWords Go.Proofs.YtamikhmpfmgofaaW.PrintLast Go.Proofs.YtamikhmpfmgofaaW.PrintMore
attribute [local go_sem] max2_int min2_int max_two min_two max_three min_three max_four min_four max2_str min2_str str_geq str_gtr str_leq
set_option linter.unusedVariables false
set_option linter.unusedSimpArgs false

def F9.l0 : Nat→List (S51)→List Int→List (S67)→Int→Int→ByteArray→ByteArray→Bool→Option ((List (S51))×List Int×Int)
 | 0,_,_,_,_,_,_,_,_ => none
 | k + 1,x7,x9,x28,x29,x30,x266000,x266001,x266002 => if x30<x29 then (if 0≤x30 then (if x30<(x28.length : Int) then (if x30 > 0 then (if x266002=true then (if x9.length<17592186044416 then (F9.l0 k x7 (x9 ++ [(rd_T67 x28 x30).f0]) x28 x29 (wrap64 (x30 + 1)) x266000 x266001 x266002) else (none)) else (if 0<(((rd_T67 x28 x30).f1).length : Int) then (if ((Op.bytesLess (((rd_T51 ((rd_T67 x28 x30).f1) 0).f0).toList) x266001.toList)=true) then (if x9.length<17592186044416 then (F9.l0 k x7 (x9 ++ [(rd_T67 x28 x30).f0]) x28 x29 (wrap64 (x30 + 1)) x266000 x266001 x266002) else (none)) else (some (x7,x9,0))) else (none))) else (if x9.length<17592186044416 then (F9.l0 k x7 (x9 ++ [(rd_T67 x28 x30).f0]) x28 x29 (wrap64 (x30 + 1)) x266000 x266001 x266002) else (none))) else (none)) else (none)) else (some (x7,x9,0))
def F9.f (k : Nat) (l0_0 : List (S67)) (a0_1 : Int) (a1_0 : ByteArray) (a1_1 : ByteArray) (a1_2 : Bool) : Option ((List (S51))×List Int×Int):=(F4.f k l0_0 a0_1).bind fun t266 => (if t266=true then ((Fj.f k l0_0 a0_1).bind fun t267 => ((F7.f t267 a1_0 a1_1 a1_2).bind fun t270 => ((Fd.f k l0_0 a0_1 a1_0 (-1)).bind fun t273 => (if 0≤t273 then (if t273≤(l0_0.length : Int) then ((some (l0_0.drop (t273 : Int).toNat : List (S67))).bind fun y277 => (F9.l0 k t270 (([] : List Int)) y277 (y277.length : Int) 0 a1_0 a1_1 a1_2)) else (none)) else (none))))) else (some (([] : List (S51)),([] : List Int),1)))
theorem F9.mono_l : ∀ k,(∀ y0 y1 y2 y3 y4 y5 y6 y7,LeO (F9.l0 k y0 y1 y2 y3 y4 y5 y6 y7) (F9.l0 (k + 1) y0 y1 y2 y3 y4 y5 y6 y7))
 | 0 => fun _ _ _ _ _ _ _ _ r h => by simp [F9.l0] at h
 | k + 1 => by
  have ih0:=F9.mono_l k;intro y0 y1 y2 y3 y4 y5 y6 y7;unfold F9.l0
  repeat' first|(with_reducible first|exact ih0 _ _ _ _ _ _ _ _|exact F4.mono _ _ _|exact Fj.mono _ _ _|exact Fd.mono _ _ _ _ _|exact zQ _|exact zN _|refine zP ?_ ?_|refine zO ?_ (fun _ => ?_))|refine zP ?_ ?_|refine zO ?_ (fun _ => ?_)
theorem F9.mono : ∀ a0 a1 a2 a3 a4 k,LeO (F9.f k a0 a1 a2 a3 a4) (F9.f (k + 1) a0 a1 a2 a3 a4):=by
 intro a0 a1 a2 a3 a4 k;have ih0:=F9.mono_l k;unfold F9.f
 repeat' first|(with_reducible first|exact ih0 _ _ _ _ _ _ _ _|exact F4.mono _ _ _|exact Fj.mono _ _ _|exact Fd.mono _ _ _ _ _|exact zQ _|exact zN _|refine zP ?_ ?_|refine zO ?_ (fun _ => ?_))|refine zP ?_ ?_|refine zO ?_ (fun _ => ?_)
set_option maxHeartbeats 8000000 in
set_option maxRecDepth 100000 in
theorem F9.calls (k : Nat) (A0_0 : Option Addr) (c0_0 : Nat) (l0_0 : List (S67)) (a0_1 : Int) (a1_0 : ByteArray) (a1_1 : ByteArray) (a1_2 : Bool) (r1 : List (S51)) (r2 : List Int) (r3 : Int) (w : World) (hr0_0 : Kd.C k67 w A0_0 l0_0.length l0_0) (hc0_0 : l0_0.length≤c0_0) (h : F9.f k l0_0 a0_1 a1_0 a1_1 a1_2=some (r1,r2,r3)) :
  Calls Try.prog 11 #[.agg #[.slice A0_0 l0_0.length c0_0,.int .i64 a0_1],.agg #[.string a1_0,.string a1_1,.bool a1_2]] w fun e w' => ∃ v0_ v1_ : Value,e = .returned (.tuple #[v0_,v1_,.int .i64 r3])∧Kd.R k51 51 w' w.heap.size (fun _ => True) v0_ r1∧Kd.R (Kd.int .i64) 3 w' w.heap.size (fun _ => True) v1_ r2∧Below w.heap.size w w':=by
 have hu35:=Try.underlying35;have hu37:=Try.underlying37;have hu51:=Try.underlying51;have hu67:=Try.underlying67;have HR0_0:=zh hr0_0;have HC0_0:=zh hc0_0;clear hr0_0 hc0_0;have HB:=zh (Below.refl w.heap.size w);have H : ((F4.f k l0_0 a0_1).bind fun t266 => (if t266=true then ((Fj.f k l0_0 a0_1).bind fun t267 => ((F7.f t267 a1_0 a1_1 a1_2).bind fun t270 => ((Fd.f k l0_0 a0_1 a1_0 (-1)).bind fun t273 => (if 0≤t273 then (if t273≤(l0_0.length : Int) then ((some (l0_0.drop (t273 : Int).toNat : List (S67))).bind fun y277 => (F9.l0 k t270 (([] : List Int)) y277 (y277.length : Int) 0 a1_0 a1_1 a1_2)) else (none)) else (none))))) else (some (([] : List (S51)),([] : List Int),1))))=some (r1,r2,r3):=h;clear h;replace H:=zT.mp H;obtain ⟨t266,A30,H⟩:=H;replace H : (if t266=true then ((Fj.f k l0_0 a0_1).bind fun t267 => ((F7.f t267 a1_0 a1_1 a1_2).bind fun t270 => ((Fd.f k l0_0 a0_1 a1_0 (-1)).bind fun t273 => (if 0≤t273 then (if t273≤(l0_0.length : Int) then ((some (l0_0.drop (t273 : Int).toNat : List (S67))).bind fun y277 => (F9.l0 k t270 (([] : List Int)) y277 (y277.length : Int) 0 a1_0 a1_1 a1_2)) else (none)) else (none))))) else (some (([] : List (S51)),([] : List Int),1)))=some (r1,r2,r3):=H;have A3:=zh A30;clear A30
 by_cases c4 : t266=true
 ·
  subst c4
  have H1 : ((Fj.f k l0_0 a0_1).bind fun t267 => ((F7.f t267 a1_0 a1_1 a1_2).bind fun t270 => ((Fd.f k l0_0 a0_1 a1_0 (-1)).bind fun t273 => (if 0≤t273 then (if t273≤(l0_0.length : Int) then ((some (l0_0.drop (t273 : Int).toNat : List (S67))).bind fun y277 => (F9.l0 k t270 (([] : List Int)) y277 (y277.length : Int) 0 a1_0 a1_1 a1_2)) else (none)) else (none)))))=some (r1,r2,r3):=by rw [if_pos rfl] at H;exact H
  clear H;have H:=H1;clear H1;replace H:=zT.mp H;obtain ⟨t267,A50,H⟩:=H;replace H : ((F7.f t267 a1_0 a1_1 a1_2).bind fun t270 => ((Fd.f k l0_0 a0_1 a1_0 (-1)).bind fun t273 => (if 0≤t273 then (if t273≤(l0_0.length : Int) then ((some (l0_0.drop (t273 : Int).toNat : List (S67))).bind fun y277 => (F9.l0 k t270 (([] : List Int)) y277 (y277.length : Int) 0 a1_0 a1_1 a1_2)) else (none)) else (none))))=some (r1,r2,r3):=H;have A5:=zh A50;clear A50;replace H:=zT.mp H;obtain ⟨t270,A60,H⟩:=H;replace H : ((Fd.f k l0_0 a0_1 a1_0 (-1)).bind fun t273 => (if 0≤t273 then (if t273≤(l0_0.length : Int) then ((some (l0_0.drop (t273 : Int).toNat : List (S67))).bind fun y277 => (F9.l0 k t270 (([] : List Int)) y277 (y277.length : Int) 0 a1_0 a1_1 a1_2)) else (none)) else (none)))=some (r1,r2,r3):=H;have A6:=zh A60;clear A60;replace H:=zT.mp H;obtain ⟨t273,A70,H⟩:=H;replace H : (if 0≤t273 then (if t273≤(l0_0.length : Int) then ((some (l0_0.drop (t273 : Int).toNat : List (S67))).bind fun y277 => (F9.l0 k t270 (([] : List Int)) y277 (y277.length : Int) 0 a1_0 a1_1 a1_2)) else (none)) else (none))=some (r1,r2,r3):=H;have A7:=zh A70;clear A70;obtain ⟨y274,hy274⟩ : ∃ y_ : List Int,y_=(([] : List Int)):=⟨_,rfl⟩;replace H : (if 0≤t273 then (if t273≤(l0_0.length : Int) then ((some (l0_0.drop (t273 : Int).toNat : List (S67))).bind fun y277 => (F9.l0 k t270 y274 y277 (y277.length : Int) 0 a1_0 a1_1 a1_2)) else (none)) else (none))=some (r1,r2,r3):=by first|(rw [hy274];with_reducible exact H)|(have H2_:=(Option.bind_some _ _).symm.trans H;rw [hy274];with_reducible exact H2_)|(have H2_:=(Option.bind_some _ _).symm.trans H;with_reducible exact H2_)|with_reducible exact H|(rw [hy274];exact H)|exact H
  have Ny274:=zh hy274;clear hy274
  by_cases c8 : 0≤t273
  ·
   rw [if_pos c8] at H
   have c8b0:=eq_true c8;have c8b1 : decide (0≤t273)=true:=decide_eq_true c8;clear c8
   by_cases c9 : t273≤(l0_0.length : Int)
   ·
    rw [if_pos c9] at H
    have c9b0:=eq_true c9;have c9b1 : decide (t273≤(l0_0.length : Int))=true:=decide_eq_true c9;clear c9;obtain ⟨y277,hy277⟩ : ∃ y_ : List (S67),y_=(l0_0.drop (t273 : Int).toNat):=⟨_,rfl⟩;replace H : (F9.l0 k t270 y274 y277 (y277.length : Int) 0 a1_0 a1_1 a1_2)=some (r1,r2,r3):=by first|(rw [hy277];with_reducible exact H)|(have H2_:=(Option.bind_some _ _).symm.trans H;rw [hy277];with_reducible exact H2_)|(have H2_:=(Option.bind_some _ _).symm.trans H;with_reducible exact H2_)|with_reducible exact H|(rw [hy277];exact H)|exact H
    have Ny277:=zh hy277;clear hy277;have H':=zh H;clear H
    go_enter Try.func11,Try.ntmps11
    go_wp2_with (first|((with_reducible refine zK (N:=2) rfl ?_);refine zI ?hg (N:=2) ?hd (cs:=#[.slice A0_0 l0_0.length c0_0,.int .i64 a0_1]) (t:=35) ?hr ?_;(case hd|hg => rfl);(case hr => go_simp <;> rfl);intro gb264 hg w10 hbox hb;have BK264:=zh (hbox);have hH_:=cH (by repeat (with_reducible first|exact HB.out|apply za|apply zb|apply zc)) hb hg;have GW264:=zh hH_.1;have GE264:=GW264;replace HB:=zh hH_.2;clear hb hbox hg hH_)|((with_reducible refine zK (N:=3) rfl ?_);refine zI ?hg (N:=3) ?hd (cs:=#[.string a1_0,.string a1_1,.bool a1_2]) (t:=37) ?hr ?_;(case hd|hg => rfl);(case hr => go_simp <;> rfl);intro gb265 hg w11 hbox hb;have BK265:=zh (hbox);have hH_:=cH (by repeat (with_reducible first|exact HB.out|apply za|apply zb|apply zc|refine zd ?_ GE264.out)) hb hg;have GW265:=zh hH_.1;have GE265:=GW265;replace HB:=zh hH_.2;have NB264_265:=zh ((by rw [hg];exact yc (yi (g:=gb264) (o:=.cells #[.slice A0_0 l0_0.length c0_0,.int .i64 a0_1] 35 (0,0)) (by (with_reducible repeat first|apply ze|apply zf|apply zg);exact BK264.out)) : gb264≠gb265));have NB265_264:=zh NB264_265.out.symm;replace BK264:=zh (cD BK264.out (by (with_reducible repeat first|apply ze|apply zf|apply zg);exact BK264.out) hb);clear hb hbox hg hH_;have hnb12:=NB264_265.out;have hnc12:=NB265_264.out;obtain ⟨hcz13_0,hcz13_1,hfz13_0,hfz13_1⟩:=cB2 BK264.out)|(go_at_call 31;(with_reducible refine (F4.calls k  _ _ l0_0 a0_1 true _ ?side1 ?side2 A3.out).mono ?_);(case side1 => repeat (first|exact (Kd.C_below HR0_0.out HB.out)|(with_reducible refine Kd.C_alloc ?_ _)|(with_reducible refine Kd.C_drewN ?_ _)|(with_reducible refine Kd.C_drew ?_)));(case side2 => exact HC0_0.out);rintro e w14 ⟨rfl,hb⟩;replace BK264:=zh (cD BK264.out (by (with_reducible repeat first|apply ze|apply zf|apply zg);exact BK264.out) hb);replace BK265:=zh (cD BK265.out (by (with_reducible repeat first|apply ze|apply zf|apply zg);exact BK265.out) hb);replace HB:=zh (zC (by repeat (with_reducible first|exact HB.out|apply za|apply zb|apply zc|refine zd ?_ GE264.out|refine zd ?_ GE265.out)) hb);(try clear hb);(try clear hb2);(try clear hk);(try clear hi);obtain ⟨hcz15_0,hcz15_1,hfz15_0,hfz15_1⟩:=cB2 BK264.out)|(go_at_call 33;(with_reducible refine (Fj.calls k  _ _ l0_0 a0_1 t267 _ ?side1 ?side2 A5.out).mono ?_);(case side1 => repeat (first|exact (Kd.C_below HR0_0.out HB.out)|(with_reducible refine Kd.C_alloc ?_ _)|(with_reducible refine Kd.C_drewN ?_ _)|(with_reducible refine Kd.C_drew ?_)));(case side2 => exact HC0_0.out);rintro e w16 ⟨v268,rfl,ho0,hb⟩;have HO269:=zh (yx ho0 (zB (by repeat (with_reducible first|exact HB.out|apply za|apply zb|apply zc|refine zd ?_ GE264.out|refine zd ?_ GE265.out))));replace BK264:=zh (cD BK264.out (by (with_reducible repeat first|apply ze|apply zf|apply zg);exact BK264.out) hb);replace BK265:=zh (cD BK265.out (by (with_reducible repeat first|apply ze|apply zf|apply zg);exact BK265.out) hb);replace HB:=zh (zC (by repeat (with_reducible first|exact HB.out|apply za|apply zb|apply zc|refine zd ?_ GE264.out|refine zd ?_ GE265.out)) hb);(try clear hb);(try clear hb2);(try clear hk);(try clear hi);(try clear ho0);obtain ⟨Ao17,co17,eo17⟩:=yk HO269.out;subst eo17)|(go_at_call 32;(with_reducible refine (F7.calls  (fun k_ => some k_=(.slice Ao17 t267.length co17 : Value).ownBlock) (.slice Ao17 t267.length co17) t267 gb265 a1_0 a1_1 a1_2 t270 w _ ?side1 ?side2 ?side3 A6.out).mono ?_);(case side1 => repeat (with_reducible first|exact HB.out|apply za|apply zb|apply zc|refine zd ?_ GE264.out|refine zd ?_ GE265.out));(case side2 => exact Kd.R_tight rfl HO269.out);(case side3 => (with_reducible repeat first|apply ze|apply zf|apply zg);exact BK265.out);rintro e w18 ⟨v271,rfl,ho0,hb,hkp⟩;replace BK264:=zh (blk_kept (by (with_reducible repeat first|apply ze|apply zf|apply zg);exact BK264.out) hkp (fun hs_ => (fun e_ => (Kd.R_ne HO269.out BK264.out (by decide)) e_) hs_));replace BK265:=zh (blk_kept (by (with_reducible repeat first|apply ze|apply zf|apply zg);exact BK265.out) hkp (fun hs_ => (fun e_ => (Kd.R_ne HO269.out BK265.out (by decide)) e_) hs_));have HO272:=zh (zM (ok':=fun k_ => True) ho0 (fun k_ hk_ => trivial));replace HB:=zh (hb);clear HO269;(try clear hb);(try clear hkp);(try clear ho0);obtain ⟨hcz19_0,hcz19_1,hfz19_0,hfz19_1⟩:=cB2 BK264.out;obtain ⟨hcz20_0,hcz20_1,hcz20_2,hfz20_0,hfz20_1,hfz20_2⟩:=cB3 BK265.out)|(go_at_call 36;(with_reducible refine (Fd.calls k  _ _ l0_0 a0_1 a1_0 (-1) t273 _ ?side1 ?side2 A7.out).mono ?_);(case side1 => repeat (first|exact (Kd.C_below HR0_0.out HB.out)|(with_reducible refine Kd.C_alloc ?_ _)|(with_reducible refine Kd.C_drewN ?_ _)|(with_reducible refine Kd.C_drew ?_)));(case side2 => exact HC0_0.out);rintro e w21 ⟨rfl,hb⟩;replace HO272:=zh (yg (by (with_reducible repeat (first|apply zm|apply zn|apply zo));exact HO272.out) hb);replace BK264:=zh (cD BK264.out (by (with_reducible repeat first|apply ze|apply zf|apply zg);exact BK264.out) hb);replace BK265:=zh (cD BK265.out (by (with_reducible repeat first|apply ze|apply zf|apply zg);exact BK265.out) hb);replace HB:=zh (zC (by repeat (with_reducible first|exact HB.out|apply za|apply zb|apply zc|refine zd ?_ GE264.out|refine zd ?_ GE265.out)) hb);(try clear hb);(try clear hb2);(try clear hk);(try clear hi))|((with_reducible refine zK (N:=24) rfl ?_);refine Kd.R_lit (Kd.int .i64) _ 3 ?hg (N:=24) ?hd (xs:=([] : List Int)) (inner:=[]) (ok:=fun _ => True) (okp:=fun _ => True) ?hr ?hp (fun _ hk => hk) trivial (Below.refl _ _) (ye _) (by simp) ?_;(case hd|hg => rfl);(case hr => go_simp <;> rfl);(case hp => exact (Reps.none _ _));intro v275 w22 ho23 hb hg_ hnew_;clear hg_ hnew_;(first|rw [← Ny274.out] at ho23|(simp only [Int.reduceToNat] at ho23;rw [← Ny274.out] at ho23));replace HO272:=zh (yg (by (with_reducible repeat (first|apply zm|apply zn|apply zo));exact HO272.out) hb);have HO276:=zh (yx ho23 (zB (by repeat (with_reducible first|exact HB.out|apply za|apply zb|apply zc|refine zd ?_ GE264.out|refine zd ?_ GE265.out))));replace BK264:=zh (cD BK264.out (by (with_reducible repeat first|apply ze|apply zf|apply zg);exact BK264.out) hb);replace BK265:=zh (cD BK265.out (by (with_reducible repeat first|apply ze|apply zf|apply zg);exact BK265.out) hb);replace HB:=zh (zC (by repeat (with_reducible first|exact HB.out|apply za|apply zb|apply zc|refine zd ?_ GE264.out|refine zd ?_ GE265.out)) hb);clear hb ho23;obtain ⟨hcz24_0,hcz24_1,hfz24_0,hfz24_1⟩:=cB2 BK264.out;have q25 : (t273 : Int)≤((l0_0.length : Int) : Int):=zy (by first|(with_reducible assumption)|assumption);obtain ⟨i025,hi025,_,hsz25,_⟩:=info_parts info67;have hroom25 : l0_0.length≤c0_0:=HC0_0.out;have hC25 : Kd.C k67 _ A0_0 l0_0.length l0_0:=HR0_0.out;have q025 : (0 : Int)≤(t273 : Int):=zy (by first|(with_reducible assumption)|assumption);have hcut25:=cut_from (P:=Try.prog) 33 67 .i64 Try.underlying33 hi025 2 hsz25 A0_0 l0_0.length c0_0 t273 q025 q25;have hr25:=Kd.C_drop (m:=(t273 : Int).toNat) (c:=c0_0) hC25 (by omega) hroom25;obtain ⟨A25,hA25⟩ : ∃ A1,A1=(if c0_0=(t273 : Int).toNat then A0_0 else (A0_0 : Option Addr).map (·.add ((t273 : Int).toNat * 2))):=⟨_,rfl⟩;obtain ⟨c25,hc25⟩ : ∃ c1,c1=c0_0 - (t273 : Int).toNat:=⟨_,rfl⟩;have hy25 : y277.length=l0_0.length - (t273 : Int).toNat:=(by rw [Ny277.out,zw] <;> omega);rw [show (l0_0).drop (t273 : Int).toNat=y277 from Ny277.out.symm] at hr25;replace hr25 : Kd.C k67 _ A25 y277.length y277:=(by rw [hA25];exact hr25);rw [← hy25,← hA25,← hc25] at hcut25;have HR280:=zh hr25;have HC280:=zh (show y277.length≤c25 from by rw [hy25,hc25];exact Nat.sub_le_sub_right hroom25 _);clear hr25 hC25 hroom25 hi025 hsz25 hc25;have KY25:=zh hy25;have KA25:=zh hA25;clear hy25 hA25;replace q25:=eq_true q25))
    repeat (go_quiet (first|((with_reducible refine zK (N:=2) rfl ?_);refine zI ?hg (N:=2) ?hd (cs:=#[.slice A0_0 l0_0.length c0_0,.int .i64 a0_1]) (t:=35) ?hr ?_;(case hd|hg => rfl);(case hr => go_simp <;> rfl);intro gb264 hg w10 hbox hb;have BK264:=zh (hbox);have hH_:=cH (by repeat (with_reducible first|exact HB.out|apply za|apply zb|apply zc)) hb hg;have GW264:=zh hH_.1;have GE264:=GW264;replace HB:=zh hH_.2;clear hb hbox hg hH_)|((with_reducible refine zK (N:=3) rfl ?_);refine zI ?hg (N:=3) ?hd (cs:=#[.string a1_0,.string a1_1,.bool a1_2]) (t:=37) ?hr ?_;(case hd|hg => rfl);(case hr => go_simp <;> rfl);intro gb265 hg w11 hbox hb;have BK265:=zh (hbox);have hH_:=cH (by repeat (with_reducible first|exact HB.out|apply za|apply zb|apply zc|refine zd ?_ GE264.out)) hb hg;have GW265:=zh hH_.1;have GE265:=GW265;replace HB:=zh hH_.2;have NB264_265:=zh ((by rw [hg];exact yc (yi (g:=gb264) (o:=.cells #[.slice A0_0 l0_0.length c0_0,.int .i64 a0_1] 35 (0,0)) (by (with_reducible repeat first|apply ze|apply zf|apply zg);exact BK264.out)) : gb264≠gb265));have NB265_264:=zh NB264_265.out.symm;replace BK264:=zh (cD BK264.out (by (with_reducible repeat first|apply ze|apply zf|apply zg);exact BK264.out) hb);clear hb hbox hg hH_;have hnb12:=NB264_265.out;have hnc12:=NB265_264.out;obtain ⟨hcz13_0,hcz13_1,hfz13_0,hfz13_1⟩:=cB2 BK264.out)|(go_at_call 31;(with_reducible refine (F4.calls k  _ _ l0_0 a0_1 true _ ?side1 ?side2 A3.out).mono ?_);(case side1 => repeat (first|exact (Kd.C_below HR0_0.out HB.out)|(with_reducible refine Kd.C_alloc ?_ _)|(with_reducible refine Kd.C_drewN ?_ _)|(with_reducible refine Kd.C_drew ?_)));(case side2 => exact HC0_0.out);rintro e w14 ⟨rfl,hb⟩;replace BK264:=zh (cD BK264.out (by (with_reducible repeat first|apply ze|apply zf|apply zg);exact BK264.out) hb);replace BK265:=zh (cD BK265.out (by (with_reducible repeat first|apply ze|apply zf|apply zg);exact BK265.out) hb);replace HB:=zh (zC (by repeat (with_reducible first|exact HB.out|apply za|apply zb|apply zc|refine zd ?_ GE264.out|refine zd ?_ GE265.out)) hb);(try clear hb);(try clear hb2);(try clear hk);(try clear hi);obtain ⟨hcz15_0,hcz15_1,hfz15_0,hfz15_1⟩:=cB2 BK264.out)|(go_at_call 33;(with_reducible refine (Fj.calls k  _ _ l0_0 a0_1 t267 _ ?side1 ?side2 A5.out).mono ?_);(case side1 => repeat (first|exact (Kd.C_below HR0_0.out HB.out)|(with_reducible refine Kd.C_alloc ?_ _)|(with_reducible refine Kd.C_drewN ?_ _)|(with_reducible refine Kd.C_drew ?_)));(case side2 => exact HC0_0.out);rintro e w16 ⟨v268,rfl,ho0,hb⟩;have HO269:=zh (yx ho0 (zB (by repeat (with_reducible first|exact HB.out|apply za|apply zb|apply zc|refine zd ?_ GE264.out|refine zd ?_ GE265.out))));replace BK264:=zh (cD BK264.out (by (with_reducible repeat first|apply ze|apply zf|apply zg);exact BK264.out) hb);replace BK265:=zh (cD BK265.out (by (with_reducible repeat first|apply ze|apply zf|apply zg);exact BK265.out) hb);replace HB:=zh (zC (by repeat (with_reducible first|exact HB.out|apply za|apply zb|apply zc|refine zd ?_ GE264.out|refine zd ?_ GE265.out)) hb);(try clear hb);(try clear hb2);(try clear hk);(try clear hi);(try clear ho0);obtain ⟨Ao17,co17,eo17⟩:=yk HO269.out;subst eo17)|(go_at_call 32;(with_reducible refine (F7.calls  (fun k_ => some k_=(.slice Ao17 t267.length co17 : Value).ownBlock) (.slice Ao17 t267.length co17) t267 gb265 a1_0 a1_1 a1_2 t270 w _ ?side1 ?side2 ?side3 A6.out).mono ?_);(case side1 => repeat (with_reducible first|exact HB.out|apply za|apply zb|apply zc|refine zd ?_ GE264.out|refine zd ?_ GE265.out));(case side2 => exact Kd.R_tight rfl HO269.out);(case side3 => (with_reducible repeat first|apply ze|apply zf|apply zg);exact BK265.out);rintro e w18 ⟨v271,rfl,ho0,hb,hkp⟩;replace BK264:=zh (blk_kept (by (with_reducible repeat first|apply ze|apply zf|apply zg);exact BK264.out) hkp (fun hs_ => (fun e_ => (Kd.R_ne HO269.out BK264.out (by decide)) e_) hs_));replace BK265:=zh (blk_kept (by (with_reducible repeat first|apply ze|apply zf|apply zg);exact BK265.out) hkp (fun hs_ => (fun e_ => (Kd.R_ne HO269.out BK265.out (by decide)) e_) hs_));have HO272:=zh (zM (ok':=fun k_ => True) ho0 (fun k_ hk_ => trivial));replace HB:=zh (hb);clear HO269;(try clear hb);(try clear hkp);(try clear ho0);obtain ⟨hcz19_0,hcz19_1,hfz19_0,hfz19_1⟩:=cB2 BK264.out;obtain ⟨hcz20_0,hcz20_1,hcz20_2,hfz20_0,hfz20_1,hfz20_2⟩:=cB3 BK265.out)|(go_at_call 36;(with_reducible refine (Fd.calls k  _ _ l0_0 a0_1 a1_0 (-1) t273 _ ?side1 ?side2 A7.out).mono ?_);(case side1 => repeat (first|exact (Kd.C_below HR0_0.out HB.out)|(with_reducible refine Kd.C_alloc ?_ _)|(with_reducible refine Kd.C_drewN ?_ _)|(with_reducible refine Kd.C_drew ?_)));(case side2 => exact HC0_0.out);rintro e w21 ⟨rfl,hb⟩;replace HO272:=zh (yg (by (with_reducible repeat (first|apply zm|apply zn|apply zo));exact HO272.out) hb);replace BK264:=zh (cD BK264.out (by (with_reducible repeat first|apply ze|apply zf|apply zg);exact BK264.out) hb);replace BK265:=zh (cD BK265.out (by (with_reducible repeat first|apply ze|apply zf|apply zg);exact BK265.out) hb);replace HB:=zh (zC (by repeat (with_reducible first|exact HB.out|apply za|apply zb|apply zc|refine zd ?_ GE264.out|refine zd ?_ GE265.out)) hb);(try clear hb);(try clear hb2);(try clear hk);(try clear hi))|((with_reducible refine zK (N:=24) rfl ?_);refine Kd.R_lit (Kd.int .i64) _ 3 ?hg (N:=24) ?hd (xs:=([] : List Int)) (inner:=[]) (ok:=fun _ => True) (okp:=fun _ => True) ?hr ?hp (fun _ hk => hk) trivial (Below.refl _ _) (ye _) (by simp) ?_;(case hd|hg => rfl);(case hr => go_simp <;> rfl);(case hp => exact (Reps.none _ _));intro v275 w22 ho23 hb hg_ hnew_;clear hg_ hnew_;(first|rw [← Ny274.out] at ho23|(simp only [Int.reduceToNat] at ho23;rw [← Ny274.out] at ho23));replace HO272:=zh (yg (by (with_reducible repeat (first|apply zm|apply zn|apply zo));exact HO272.out) hb);have HO276:=zh (yx ho23 (zB (by repeat (with_reducible first|exact HB.out|apply za|apply zb|apply zc|refine zd ?_ GE264.out|refine zd ?_ GE265.out))));replace BK264:=zh (cD BK264.out (by (with_reducible repeat first|apply ze|apply zf|apply zg);exact BK264.out) hb);replace BK265:=zh (cD BK265.out (by (with_reducible repeat first|apply ze|apply zf|apply zg);exact BK265.out) hb);replace HB:=zh (zC (by repeat (with_reducible first|exact HB.out|apply za|apply zb|apply zc|refine zd ?_ GE264.out|refine zd ?_ GE265.out)) hb);clear hb ho23;obtain ⟨hcz24_0,hcz24_1,hfz24_0,hfz24_1⟩:=cB2 BK264.out;have q25 : (t273 : Int)≤((l0_0.length : Int) : Int):=zy (by first|(with_reducible assumption)|assumption);obtain ⟨i025,hi025,_,hsz25,_⟩:=info_parts info67;have hroom25 : l0_0.length≤c0_0:=HC0_0.out;have hC25 : Kd.C k67 _ A0_0 l0_0.length l0_0:=HR0_0.out;have q025 : (0 : Int)≤(t273 : Int):=zy (by first|(with_reducible assumption)|assumption);have hcut25:=cut_from (P:=Try.prog) 33 67 .i64 Try.underlying33 hi025 2 hsz25 A0_0 l0_0.length c0_0 t273 q025 q25;have hr25:=Kd.C_drop (m:=(t273 : Int).toNat) (c:=c0_0) hC25 (by omega) hroom25;obtain ⟨A25,hA25⟩ : ∃ A1,A1=(if c0_0=(t273 : Int).toNat then A0_0 else (A0_0 : Option Addr).map (·.add ((t273 : Int).toNat * 2))):=⟨_,rfl⟩;obtain ⟨c25,hc25⟩ : ∃ c1,c1=c0_0 - (t273 : Int).toNat:=⟨_,rfl⟩;have hy25 : y277.length=l0_0.length - (t273 : Int).toNat:=(by rw [Ny277.out,zw] <;> omega);rw [show (l0_0).drop (t273 : Int).toNat=y277 from Ny277.out.symm] at hr25;replace hr25 : Kd.C k67 _ A25 y277.length y277:=(by rw [hA25];exact hr25);rw [← hy25,← hA25,← hc25] at hcut25;have HR280:=zh hr25;have HC280:=zh (show y277.length≤c25 from by rw [hy25,hc25];exact Nat.sub_le_sub_right hroom25 _);clear hr25 hC25 hroom25 hi025 hsz25 hc25;have KY25:=zh hy25;have KA25:=zh hA25;clear hy25 hA25;replace q25:=eq_true q25));try go_wp2_with (first|((with_reducible refine zK (N:=2) rfl ?_);refine zI ?hg (N:=2) ?hd (cs:=#[.slice A0_0 l0_0.length c0_0,.int .i64 a0_1]) (t:=35) ?hr ?_;(case hd|hg => rfl);(case hr => go_simp <;> rfl);intro gb264 hg w10 hbox hb;have BK264:=zh (hbox);have hH_:=cH (by repeat (with_reducible first|exact HB.out|apply za|apply zb|apply zc)) hb hg;have GW264:=zh hH_.1;have GE264:=GW264;replace HB:=zh hH_.2;clear hb hbox hg hH_)|((with_reducible refine zK (N:=3) rfl ?_);refine zI ?hg (N:=3) ?hd (cs:=#[.string a1_0,.string a1_1,.bool a1_2]) (t:=37) ?hr ?_;(case hd|hg => rfl);(case hr => go_simp <;> rfl);intro gb265 hg w11 hbox hb;have BK265:=zh (hbox);have hH_:=cH (by repeat (with_reducible first|exact HB.out|apply za|apply zb|apply zc|refine zd ?_ GE264.out)) hb hg;have GW265:=zh hH_.1;have GE265:=GW265;replace HB:=zh hH_.2;have NB264_265:=zh ((by rw [hg];exact yc (yi (g:=gb264) (o:=.cells #[.slice A0_0 l0_0.length c0_0,.int .i64 a0_1] 35 (0,0)) (by (with_reducible repeat first|apply ze|apply zf|apply zg);exact BK264.out)) : gb264≠gb265));have NB265_264:=zh NB264_265.out.symm;replace BK264:=zh (cD BK264.out (by (with_reducible repeat first|apply ze|apply zf|apply zg);exact BK264.out) hb);clear hb hbox hg hH_;have hnb12:=NB264_265.out;have hnc12:=NB265_264.out;obtain ⟨hcz13_0,hcz13_1,hfz13_0,hfz13_1⟩:=cB2 BK264.out)|(go_at_call 31;(with_reducible refine (F4.calls k  _ _ l0_0 a0_1 true _ ?side1 ?side2 A3.out).mono ?_);(case side1 => repeat (first|exact (Kd.C_below HR0_0.out HB.out)|(with_reducible refine Kd.C_alloc ?_ _)|(with_reducible refine Kd.C_drewN ?_ _)|(with_reducible refine Kd.C_drew ?_)));(case side2 => exact HC0_0.out);rintro e w14 ⟨rfl,hb⟩;replace BK264:=zh (cD BK264.out (by (with_reducible repeat first|apply ze|apply zf|apply zg);exact BK264.out) hb);replace BK265:=zh (cD BK265.out (by (with_reducible repeat first|apply ze|apply zf|apply zg);exact BK265.out) hb);replace HB:=zh (zC (by repeat (with_reducible first|exact HB.out|apply za|apply zb|apply zc|refine zd ?_ GE264.out|refine zd ?_ GE265.out)) hb);(try clear hb);(try clear hb2);(try clear hk);(try clear hi);obtain ⟨hcz15_0,hcz15_1,hfz15_0,hfz15_1⟩:=cB2 BK264.out)|(go_at_call 33;(with_reducible refine (Fj.calls k  _ _ l0_0 a0_1 t267 _ ?side1 ?side2 A5.out).mono ?_);(case side1 => repeat (first|exact (Kd.C_below HR0_0.out HB.out)|(with_reducible refine Kd.C_alloc ?_ _)|(with_reducible refine Kd.C_drewN ?_ _)|(with_reducible refine Kd.C_drew ?_)));(case side2 => exact HC0_0.out);rintro e w16 ⟨v268,rfl,ho0,hb⟩;have HO269:=zh (yx ho0 (zB (by repeat (with_reducible first|exact HB.out|apply za|apply zb|apply zc|refine zd ?_ GE264.out|refine zd ?_ GE265.out))));replace BK264:=zh (cD BK264.out (by (with_reducible repeat first|apply ze|apply zf|apply zg);exact BK264.out) hb);replace BK265:=zh (cD BK265.out (by (with_reducible repeat first|apply ze|apply zf|apply zg);exact BK265.out) hb);replace HB:=zh (zC (by repeat (with_reducible first|exact HB.out|apply za|apply zb|apply zc|refine zd ?_ GE264.out|refine zd ?_ GE265.out)) hb);(try clear hb);(try clear hb2);(try clear hk);(try clear hi);(try clear ho0);obtain ⟨Ao17,co17,eo17⟩:=yk HO269.out;subst eo17)|(go_at_call 32;(with_reducible refine (F7.calls  (fun k_ => some k_=(.slice Ao17 t267.length co17 : Value).ownBlock) (.slice Ao17 t267.length co17) t267 gb265 a1_0 a1_1 a1_2 t270 w _ ?side1 ?side2 ?side3 A6.out).mono ?_);(case side1 => repeat (with_reducible first|exact HB.out|apply za|apply zb|apply zc|refine zd ?_ GE264.out|refine zd ?_ GE265.out));(case side2 => exact Kd.R_tight rfl HO269.out);(case side3 => (with_reducible repeat first|apply ze|apply zf|apply zg);exact BK265.out);rintro e w18 ⟨v271,rfl,ho0,hb,hkp⟩;replace BK264:=zh (blk_kept (by (with_reducible repeat first|apply ze|apply zf|apply zg);exact BK264.out) hkp (fun hs_ => (fun e_ => (Kd.R_ne HO269.out BK264.out (by decide)) e_) hs_));replace BK265:=zh (blk_kept (by (with_reducible repeat first|apply ze|apply zf|apply zg);exact BK265.out) hkp (fun hs_ => (fun e_ => (Kd.R_ne HO269.out BK265.out (by decide)) e_) hs_));have HO272:=zh (zM (ok':=fun k_ => True) ho0 (fun k_ hk_ => trivial));replace HB:=zh (hb);clear HO269;(try clear hb);(try clear hkp);(try clear ho0);obtain ⟨hcz19_0,hcz19_1,hfz19_0,hfz19_1⟩:=cB2 BK264.out;obtain ⟨hcz20_0,hcz20_1,hcz20_2,hfz20_0,hfz20_1,hfz20_2⟩:=cB3 BK265.out)|(go_at_call 36;(with_reducible refine (Fd.calls k  _ _ l0_0 a0_1 a1_0 (-1) t273 _ ?side1 ?side2 A7.out).mono ?_);(case side1 => repeat (first|exact (Kd.C_below HR0_0.out HB.out)|(with_reducible refine Kd.C_alloc ?_ _)|(with_reducible refine Kd.C_drewN ?_ _)|(with_reducible refine Kd.C_drew ?_)));(case side2 => exact HC0_0.out);rintro e w21 ⟨rfl,hb⟩;replace HO272:=zh (yg (by (with_reducible repeat (first|apply zm|apply zn|apply zo));exact HO272.out) hb);replace BK264:=zh (cD BK264.out (by (with_reducible repeat first|apply ze|apply zf|apply zg);exact BK264.out) hb);replace BK265:=zh (cD BK265.out (by (with_reducible repeat first|apply ze|apply zf|apply zg);exact BK265.out) hb);replace HB:=zh (zC (by repeat (with_reducible first|exact HB.out|apply za|apply zb|apply zc|refine zd ?_ GE264.out|refine zd ?_ GE265.out)) hb);(try clear hb);(try clear hb2);(try clear hk);(try clear hi))|((with_reducible refine zK (N:=24) rfl ?_);refine Kd.R_lit (Kd.int .i64) _ 3 ?hg (N:=24) ?hd (xs:=([] : List Int)) (inner:=[]) (ok:=fun _ => True) (okp:=fun _ => True) ?hr ?hp (fun _ hk => hk) trivial (Below.refl _ _) (ye _) (by simp) ?_;(case hd|hg => rfl);(case hr => go_simp <;> rfl);(case hp => exact (Reps.none _ _));intro v275 w22 ho23 hb hg_ hnew_;clear hg_ hnew_;(first|rw [← Ny274.out] at ho23|(simp only [Int.reduceToNat] at ho23;rw [← Ny274.out] at ho23));replace HO272:=zh (yg (by (with_reducible repeat (first|apply zm|apply zn|apply zo));exact HO272.out) hb);have HO276:=zh (yx ho23 (zB (by repeat (with_reducible first|exact HB.out|apply za|apply zb|apply zc|refine zd ?_ GE264.out|refine zd ?_ GE265.out))));replace BK264:=zh (cD BK264.out (by (with_reducible repeat first|apply ze|apply zf|apply zg);exact BK264.out) hb);replace BK265:=zh (cD BK265.out (by (with_reducible repeat first|apply ze|apply zf|apply zg);exact BK265.out) hb);replace HB:=zh (zC (by repeat (with_reducible first|exact HB.out|apply za|apply zb|apply zc|refine zd ?_ GE264.out|refine zd ?_ GE265.out)) hb);clear hb ho23;obtain ⟨hcz24_0,hcz24_1,hfz24_0,hfz24_1⟩:=cB2 BK264.out;have q25 : (t273 : Int)≤((l0_0.length : Int) : Int):=zy (by first|(with_reducible assumption)|assumption);obtain ⟨i025,hi025,_,hsz25,_⟩:=info_parts info67;have hroom25 : l0_0.length≤c0_0:=HC0_0.out;have hC25 : Kd.C k67 _ A0_0 l0_0.length l0_0:=HR0_0.out;have q025 : (0 : Int)≤(t273 : Int):=zy (by first|(with_reducible assumption)|assumption);have hcut25:=cut_from (P:=Try.prog) 33 67 .i64 Try.underlying33 hi025 2 hsz25 A0_0 l0_0.length c0_0 t273 q025 q25;have hr25:=Kd.C_drop (m:=(t273 : Int).toNat) (c:=c0_0) hC25 (by omega) hroom25;obtain ⟨A25,hA25⟩ : ∃ A1,A1=(if c0_0=(t273 : Int).toNat then A0_0 else (A0_0 : Option Addr).map (·.add ((t273 : Int).toNat * 2))):=⟨_,rfl⟩;obtain ⟨c25,hc25⟩ : ∃ c1,c1=c0_0 - (t273 : Int).toNat:=⟨_,rfl⟩;have hy25 : y277.length=l0_0.length - (t273 : Int).toNat:=(by rw [Ny277.out,zw] <;> omega);rw [show (l0_0).drop (t273 : Int).toNat=y277 from Ny277.out.symm] at hr25;replace hr25 : Kd.C k67 _ A25 y277.length y277:=(by rw [hA25];exact hr25);rw [← hy25,← hA25,← hc25] at hcut25;have HR280:=zh hr25;have HC280:=zh (show y277.length≤c25 from by rw [hy25,hc25];exact Nat.sub_le_sub_right hroom25 _);clear hr25 hC25 hroom25 hi025 hsz25 hc25;have KY25:=zh hy25;have KA25:=zh hA25;clear hy25 hA25;replace q25:=eq_true q25)))
    go_loopg [9,30] k (fun kq v9 v30 w' => ∃ (x9_1 : List Int) (x30_1 : Int),v30 = .int .i64 x30_1∧Aside0 (F9.l0 kq t270 x9_1 y277 (y277.length : Int) x30_1 a1_0 a1_1 a1_2=some (r1,r2,r3))∧Aside0 (kq≤k)∧Aside0 (Kd.R k51 51 w' w.heap.size (fun _ => True) v271 t270)∧Aside0 (Kd.R (Kd.int .i64) 3 w' w.heap.size (fun _ => True) v9 x9_1)∧Aside0 (w'.heap[gb264]? = some (.cells #[(.slice A0_0 l0_0.length c0_0),.int .i64 a0_1] 35 (0,0)))∧Aside0 (w'.heap[gb265]? = some (.cells #[.string a1_0,.string a1_1,.bool a1_2] 37 (0,0)))∧Aside0 (Below w.heap.size w w'))
    case atStart => exact ⟨(y274),(0),(by first|rfl|(simp;done)|(simp [*];done)),H',⟨ye _⟩,⟨by (with_reducible repeat (first|apply zm|apply zn|apply zo));exact HO272.out⟩,⟨by (with_reducible repeat (first|apply zm|apply zn|apply zo));exact HO276.out⟩,⟨by (with_reducible repeat first|apply ze|apply zf|apply zg);exact BK264.out⟩,⟨by (with_reducible repeat first|apply ze|apply zf|apply zg);exact BK265.out⟩,⟨by repeat (with_reducible first|exact HB.out|apply za|apply zb|apply zc|refine zd ?_ GE264.out|refine zd ?_ GE265.out)⟩⟩
    case round =>
     clear H'
     try clear c1 c2
     try clear p2
     try clear q2
     try clear c4 c8 c8b0 c8b1 c9 c9b0 c9b1 c11 c12 c25
     try clear q25
     try clear hcz13_0 hcz13_1
     try clear hcz15_0 hcz15_1
     try clear hcz19_0 hcz19_1
     try clear hcz20_0 hcz20_1 hcz20_2
     try clear hcz24_0 hcz24_1
     try clear hfz13_0 hfz13_1
     try clear hfz15_0 hfz15_1
     try clear hfz19_0 hfz19_1
     try clear hfz20_0 hfz20_1 hfz20_2
     try clear hfz24_0 hfz24_1
     try clear q025
     try clear q25
     obtain ⟨x9_1,x30_1,rfl,HA,HK1,HO_7,HO_9,BK264,BK265,HB⟩:=hrel
     cases gk with
     | zero => exact absurd HA.out (by simp [F9.l0])
     | succ k1 =>
      have H:=HA.out;clear HA;simp only [F9.l0] at H
      by_cases c26 : x30_1<(y277.length : Int)
      ·
       rw [if_pos c26] at H
       have c26b0 : decide (x30_1<(y277.length : Int))=true:=decide_eq_true c26;clear c26
       by_cases c27 : 0≤x30_1
       ·
        rw [if_pos c27] at H
        have c27b0 : decide (0≤x30_1)=true:=decide_eq_true c27;clear c27
        by_cases c28 : x30_1<(y277.length : Int)
        ·
         rw [if_pos c28] at H
         have c28b0 : decide (x30_1<(y277.length : Int))=true:=decide_eq_true c28;clear c28
         by_cases c29 : x30_1 > 0
         ·
          rw [if_pos c29] at H
          have c29b0 : decide (0<x30_1)=true:=decide_eq_true c29;clear c29
          by_cases c30 : a1_2=true
          ·
           subst c30
           have H1 : (if x9_1.length<17592186044416 then (F9.l0 k1 t270 (x9_1 ++ [(rd_T67 y277 x30_1).f0]) y277 (y277.length : Int) (wrap64 (x30_1 + 1)) a1_0 a1_1 true) else (none))=some (r1,r2,r3):=by rw [if_pos rfl] at H;exact H
           clear H;have H:=H1;clear H1
           by_cases c31 : x9_1.length<17592186044416
           ·
            rw [if_pos c31] at H
            have LMc31:=zh c31;clear c31;obtain ⟨y283,hy283⟩ : ∃ y_ : List Int,y_=(x9_1 ++ [(rd_T67 y277 x30_1).f0]):=⟨_,rfl⟩;replace H : (F9.l0 k1 t270 y283 y277 (y277.length : Int) (wrap64 (x30_1 + 1)) a1_0 a1_1 true)=some (r1,r2,r3):=by first|(rw [hy283];with_reducible exact H)|(have H2_:=(Option.bind_some _ _).symm.trans H;rw [hy283];with_reducible exact H2_)|(have H2_:=(Option.bind_some _ _).symm.trans H;with_reducible exact H2_)|with_reducible exact H|(rw [hy283];exact H)|exact H
            have Ny283:=zh hy283;clear hy283;have H':=zh H;clear H;have p281 : 0≤(x30_1 : Int):=zy (by first|(with_reducible assumption)|assumption);have q281 : x30_1<(y277.length : Int):=zy (by first|(with_reducible assumption)|assumption);obtain ⟨ad281,A281_1,c281_1,e281,hx281_0,hx281_1,hl281_1,hi281_1⟩:=at_T67 HR280.out x30_1 p281 q281
            cases e281
            replace hx281_0:=(HB.out.cell (zl w _ hx281_0)).trans hx281_0;replace hx281_1:=(HB.out.cell (zl w _ hx281_1)).trans hx281_1;have HR281_1:=zh hi281_1;have HC281_1:=zh hl281_1;clear hi281_1 hl281_1;replace p281:=eq_true p281;replace q281:=eq_true q281
            go_wp2_with (first|((with_reducible refine zK (N:=11) rfl ?_);refine zI ?hg (N:=11) ?hd (cs:=#[.int .i64 0,.slice none 0 0]) (t:=67) ?hr ?_;(case hd|hg => rfl);(case hr => go_simp <;> rfl);intro gb282 hg w32 hbox hb;replace HO_7:=zh (yg (by (with_reducible repeat (first|apply zm|apply zn|apply zo));exact HO_7.out) hb);replace HO_9:=zh (yg (by (with_reducible repeat (first|apply zm|apply zn|apply zo));exact HO_9.out) hb);have BK282:=zh (hbox);have hH_:=cH (by repeat (with_reducible first|exact HB.out|apply za|apply zb|apply zc|refine zd ?_ GE264.out|refine zd ?_ GE265.out)) hb hg;have GW282:=zh hH_.1;have GE282:=GW282;replace HB:=zh hH_.2;have NB264_282:=zh ((by rw [hg];exact yc (yi (g:=gb264) (o:=.cells #[.slice A0_0 l0_0.length c0_0,.int .i64 a0_1] 35 (0,0)) (by (with_reducible repeat first|apply ze|apply zf|apply zg);exact BK264.out)) : gb264≠gb282));have NB282_264:=zh NB264_282.out.symm;replace BK264:=zh (cD BK264.out (by (with_reducible repeat first|apply ze|apply zf|apply zg);exact BK264.out) hb);have NB265_282:=zh ((by rw [hg];exact yc (yi (g:=gb265) (o:=.cells #[.string a1_0,.string a1_1,.bool true] 37 (0,0)) (by (with_reducible repeat first|apply ze|apply zf|apply zg);exact BK265.out)) : gb265≠gb282));have NB282_265:=zh NB265_282.out.symm;replace BK265:=zh (cD BK265.out (by (with_reducible repeat first|apply ze|apply zf|apply zg);exact BK265.out) hb);clear hb hbox hg hH_;have hnb33:=NB282_264.out;have hnc33:=NB264_282.out;have hnb34:=NB282_265.out;have hnc34:=NB265_282.out;obtain ⟨hcz35_0,hcz35_1,hfz35_0,hfz35_1⟩:=cB2 BK282.out;have hnb36:=NB265_264.out;have hnc36:=NB264_265.out;obtain ⟨hcz37_0,hcz37_1,hcz37_2,hfz37_0,hfz37_1,hfz37_2⟩:=cB3 BK265.out)|((with_reducible refine yA (b:=.append) (xs:=#[.tmp 52,.tmp 55]) rfl ?_);at_builtin;refine Kd.R_append (Kd.int .i64) (w0:=w) w.heap.size rfl (.tmp 52) (.tmp 55) 30 3 (.int .i64 0) 8 rfl Try.underlying30 info3 rfl (by decide) (by omega) u9 x9_1 ((rd_T67 y277 x30_1).f0) [.int .i64 ((rd_T67 y277 x30_1).f0)] (fun _ => True) (fun _ => False) rfl (by go_simp <;> rfl) ?aP (fun _ hk => hk.elim) ?aF ?aO ?aB ?aS ?aL ?_;(case aP => exact rfl);(case aB => exact (by repeat (with_reducible first|exact HB.out|apply za|apply zb|apply zc|refine zd ?_ GE264.out|refine zd ?_ GE265.out|refine zd ?_ GE282.out)));(case aF => exact (fun _ _ => trivial));(case aO => exact (by (with_reducible repeat (first|apply zm|apply zn|apply zo));exact zM (zE (p:=⟨gb282,1,none⟩) (zE (p:=⟨gb282,0,none⟩) (yf HO_9.out BK282.out (by decide)) (fun _ hk => hk.2) (.int .i64 ((rd_T67 y277 x30_1).f0))) (fun _ hk => hk.2) (.slice A281_1 ((rd_T67 y277 x30_1).f1).length c281_1)) (fun _ hk => trivial)));(case aS => exact (zB (by repeat (with_reducible first|exact HB.out|apply za|apply zb|apply zc|refine zd ?_ GE264.out|refine zd ?_ GE265.out|refine zd ?_ GE282.out))));(case aL => have:=LMc31.out;omega);intro v284 w38 ho hb hg hat;rw [← Ny283.out] at ho;replace HO_7:=zh (Kd.R_over' (by (with_reducible repeat (first|apply zm|apply zn|apply zo));exact (zM (zE (p:=⟨gb282,1,none⟩) (zE (p:=⟨gb282,0,none⟩) (yf HO_7.out BK282.out (by decide)) (fun _ hk => hk.2) (.int .i64 ((rd_T67 y277 x30_1).f0))) (fun _ hk => hk.2) (.slice A281_1 ((rd_T67 y277 x30_1).f1).length c281_1)) (fun _ h_ => h_.1))) (Kd.R_typed (by (with_reducible repeat (first|apply zm|apply zn|apply zo));exact (zM (zE (p:=⟨gb282,1,none⟩) (zE (p:=⟨gb282,0,none⟩) (yf HO_9.out BK282.out (by decide)) (fun _ hk => hk.2) (.int .i64 ((rd_T67 y277 x30_1).f0))) (fun _ hk => hk.2) (.slice A281_1 ((rd_T67 y277 x30_1).f1).length c281_1)) (fun _ h_ => h_.1)))) (by decide) hg);replace BK264:=zh (yv (g:=gb264) (o:=.cells #[.slice A0_0 l0_0.length c0_0,.int .i64 a0_1] 35 (0,0)) (by (with_reducible repeat first|apply ze|apply zf|apply zg);refine cS2 ?_ NB264_282.out;(with_reducible repeat first|apply ze|apply zf|apply zg);exact BK264.out) hg (Kd.R_ne HO_9.out BK264.out (by decide)));replace BK265:=zh (yv (g:=gb265) (o:=.cells #[.string a1_0,.string a1_1,.bool true] 37 (0,0)) (by (with_reducible repeat first|apply ze|apply zf|apply zg);refine cS2 ?_ NB265_282.out;(with_reducible repeat first|apply ze|apply zf|apply zg);exact BK265.out) hg (Kd.R_ne HO_9.out BK265.out (by decide)));replace BK282:=zh (yv (g:=gb282) (o:=.cells #[.int .i64 ((rd_T67 y277 x30_1).f0),.slice A281_1 ((rd_T67 y277 x30_1).f1).length c281_1] 67 (0,0)) (by (with_reducible repeat first|apply ze|apply zf|apply zg);refine zL (cs:=#[.int .i64 ((rd_T67 y277 x30_1).f0),.slice none 0 0]) ?_ 1 _ rfl;(with_reducible repeat first|apply ze|apply zf|apply zg);refine zL (cs:=#[.int .i64 0,.slice none 0 0]) ?_ 0 _ rfl;(with_reducible repeat first|apply ze|apply zf|apply zg);exact BK282.out) hg (Kd.R_ne HO_9.out BK282.out (by decide)));replace HB:=zh (hb);have HO285:=zh (ho);clear HO_9 ho hb hg hat))
            repeat (go_quiet (first|((with_reducible refine zK (N:=11) rfl ?_);refine zI ?hg (N:=11) ?hd (cs:=#[.int .i64 0,.slice none 0 0]) (t:=67) ?hr ?_;(case hd|hg => rfl);(case hr => go_simp <;> rfl);intro gb282 hg w32 hbox hb;replace HO_7:=zh (yg (by (with_reducible repeat (first|apply zm|apply zn|apply zo));exact HO_7.out) hb);replace HO_9:=zh (yg (by (with_reducible repeat (first|apply zm|apply zn|apply zo));exact HO_9.out) hb);have BK282:=zh (hbox);have hH_:=cH (by repeat (with_reducible first|exact HB.out|apply za|apply zb|apply zc|refine zd ?_ GE264.out|refine zd ?_ GE265.out)) hb hg;have GW282:=zh hH_.1;have GE282:=GW282;replace HB:=zh hH_.2;have NB264_282:=zh ((by rw [hg];exact yc (yi (g:=gb264) (o:=.cells #[.slice A0_0 l0_0.length c0_0,.int .i64 a0_1] 35 (0,0)) (by (with_reducible repeat first|apply ze|apply zf|apply zg);exact BK264.out)) : gb264≠gb282));have NB282_264:=zh NB264_282.out.symm;replace BK264:=zh (cD BK264.out (by (with_reducible repeat first|apply ze|apply zf|apply zg);exact BK264.out) hb);have NB265_282:=zh ((by rw [hg];exact yc (yi (g:=gb265) (o:=.cells #[.string a1_0,.string a1_1,.bool true] 37 (0,0)) (by (with_reducible repeat first|apply ze|apply zf|apply zg);exact BK265.out)) : gb265≠gb282));have NB282_265:=zh NB265_282.out.symm;replace BK265:=zh (cD BK265.out (by (with_reducible repeat first|apply ze|apply zf|apply zg);exact BK265.out) hb);clear hb hbox hg hH_;have hnb33:=NB282_264.out;have hnc33:=NB264_282.out;have hnb34:=NB282_265.out;have hnc34:=NB265_282.out;obtain ⟨hcz35_0,hcz35_1,hfz35_0,hfz35_1⟩:=cB2 BK282.out;have hnb36:=NB265_264.out;have hnc36:=NB264_265.out;obtain ⟨hcz37_0,hcz37_1,hcz37_2,hfz37_0,hfz37_1,hfz37_2⟩:=cB3 BK265.out)|((with_reducible refine yA (b:=.append) (xs:=#[.tmp 52,.tmp 55]) rfl ?_);at_builtin;refine Kd.R_append (Kd.int .i64) (w0:=w) w.heap.size rfl (.tmp 52) (.tmp 55) 30 3 (.int .i64 0) 8 rfl Try.underlying30 info3 rfl (by decide) (by omega) u9 x9_1 ((rd_T67 y277 x30_1).f0) [.int .i64 ((rd_T67 y277 x30_1).f0)] (fun _ => True) (fun _ => False) rfl (by go_simp <;> rfl) ?aP (fun _ hk => hk.elim) ?aF ?aO ?aB ?aS ?aL ?_;(case aP => exact rfl);(case aB => exact (by repeat (with_reducible first|exact HB.out|apply za|apply zb|apply zc|refine zd ?_ GE264.out|refine zd ?_ GE265.out|refine zd ?_ GE282.out)));(case aF => exact (fun _ _ => trivial));(case aO => exact (by (with_reducible repeat (first|apply zm|apply zn|apply zo));exact zM (zE (p:=⟨gb282,1,none⟩) (zE (p:=⟨gb282,0,none⟩) (yf HO_9.out BK282.out (by decide)) (fun _ hk => hk.2) (.int .i64 ((rd_T67 y277 x30_1).f0))) (fun _ hk => hk.2) (.slice A281_1 ((rd_T67 y277 x30_1).f1).length c281_1)) (fun _ hk => trivial)));(case aS => exact (zB (by repeat (with_reducible first|exact HB.out|apply za|apply zb|apply zc|refine zd ?_ GE264.out|refine zd ?_ GE265.out|refine zd ?_ GE282.out))));(case aL => have:=LMc31.out;omega);intro v284 w38 ho hb hg hat;rw [← Ny283.out] at ho;replace HO_7:=zh (Kd.R_over' (by (with_reducible repeat (first|apply zm|apply zn|apply zo));exact (zM (zE (p:=⟨gb282,1,none⟩) (zE (p:=⟨gb282,0,none⟩) (yf HO_7.out BK282.out (by decide)) (fun _ hk => hk.2) (.int .i64 ((rd_T67 y277 x30_1).f0))) (fun _ hk => hk.2) (.slice A281_1 ((rd_T67 y277 x30_1).f1).length c281_1)) (fun _ h_ => h_.1))) (Kd.R_typed (by (with_reducible repeat (first|apply zm|apply zn|apply zo));exact (zM (zE (p:=⟨gb282,1,none⟩) (zE (p:=⟨gb282,0,none⟩) (yf HO_9.out BK282.out (by decide)) (fun _ hk => hk.2) (.int .i64 ((rd_T67 y277 x30_1).f0))) (fun _ hk => hk.2) (.slice A281_1 ((rd_T67 y277 x30_1).f1).length c281_1)) (fun _ h_ => h_.1)))) (by decide) hg);replace BK264:=zh (yv (g:=gb264) (o:=.cells #[.slice A0_0 l0_0.length c0_0,.int .i64 a0_1] 35 (0,0)) (by (with_reducible repeat first|apply ze|apply zf|apply zg);refine cS2 ?_ NB264_282.out;(with_reducible repeat first|apply ze|apply zf|apply zg);exact BK264.out) hg (Kd.R_ne HO_9.out BK264.out (by decide)));replace BK265:=zh (yv (g:=gb265) (o:=.cells #[.string a1_0,.string a1_1,.bool true] 37 (0,0)) (by (with_reducible repeat first|apply ze|apply zf|apply zg);refine cS2 ?_ NB265_282.out;(with_reducible repeat first|apply ze|apply zf|apply zg);exact BK265.out) hg (Kd.R_ne HO_9.out BK265.out (by decide)));replace BK282:=zh (yv (g:=gb282) (o:=.cells #[.int .i64 ((rd_T67 y277 x30_1).f0),.slice A281_1 ((rd_T67 y277 x30_1).f1).length c281_1] 67 (0,0)) (by (with_reducible repeat first|apply ze|apply zf|apply zg);refine zL (cs:=#[.int .i64 ((rd_T67 y277 x30_1).f0),.slice none 0 0]) ?_ 1 _ rfl;(with_reducible repeat first|apply ze|apply zf|apply zg);refine zL (cs:=#[.int .i64 0,.slice none 0 0]) ?_ 0 _ rfl;(with_reducible repeat first|apply ze|apply zf|apply zg);exact BK282.out) hg (Kd.R_ne HO_9.out BK282.out (by decide)));replace HB:=zh (hb);have HO285:=zh (ho);clear HO_9 ho hb hg hat));try go_wp2_with (first|((with_reducible refine zK (N:=11) rfl ?_);refine zI ?hg (N:=11) ?hd (cs:=#[.int .i64 0,.slice none 0 0]) (t:=67) ?hr ?_;(case hd|hg => rfl);(case hr => go_simp <;> rfl);intro gb282 hg w32 hbox hb;replace HO_7:=zh (yg (by (with_reducible repeat (first|apply zm|apply zn|apply zo));exact HO_7.out) hb);replace HO_9:=zh (yg (by (with_reducible repeat (first|apply zm|apply zn|apply zo));exact HO_9.out) hb);have BK282:=zh (hbox);have hH_:=cH (by repeat (with_reducible first|exact HB.out|apply za|apply zb|apply zc|refine zd ?_ GE264.out|refine zd ?_ GE265.out)) hb hg;have GW282:=zh hH_.1;have GE282:=GW282;replace HB:=zh hH_.2;have NB264_282:=zh ((by rw [hg];exact yc (yi (g:=gb264) (o:=.cells #[.slice A0_0 l0_0.length c0_0,.int .i64 a0_1] 35 (0,0)) (by (with_reducible repeat first|apply ze|apply zf|apply zg);exact BK264.out)) : gb264≠gb282));have NB282_264:=zh NB264_282.out.symm;replace BK264:=zh (cD BK264.out (by (with_reducible repeat first|apply ze|apply zf|apply zg);exact BK264.out) hb);have NB265_282:=zh ((by rw [hg];exact yc (yi (g:=gb265) (o:=.cells #[.string a1_0,.string a1_1,.bool true] 37 (0,0)) (by (with_reducible repeat first|apply ze|apply zf|apply zg);exact BK265.out)) : gb265≠gb282));have NB282_265:=zh NB265_282.out.symm;replace BK265:=zh (cD BK265.out (by (with_reducible repeat first|apply ze|apply zf|apply zg);exact BK265.out) hb);clear hb hbox hg hH_;have hnb33:=NB282_264.out;have hnc33:=NB264_282.out;have hnb34:=NB282_265.out;have hnc34:=NB265_282.out;obtain ⟨hcz35_0,hcz35_1,hfz35_0,hfz35_1⟩:=cB2 BK282.out;have hnb36:=NB265_264.out;have hnc36:=NB264_265.out;obtain ⟨hcz37_0,hcz37_1,hcz37_2,hfz37_0,hfz37_1,hfz37_2⟩:=cB3 BK265.out)|((with_reducible refine yA (b:=.append) (xs:=#[.tmp 52,.tmp 55]) rfl ?_);at_builtin;refine Kd.R_append (Kd.int .i64) (w0:=w) w.heap.size rfl (.tmp 52) (.tmp 55) 30 3 (.int .i64 0) 8 rfl Try.underlying30 info3 rfl (by decide) (by omega) u9 x9_1 ((rd_T67 y277 x30_1).f0) [.int .i64 ((rd_T67 y277 x30_1).f0)] (fun _ => True) (fun _ => False) rfl (by go_simp <;> rfl) ?aP (fun _ hk => hk.elim) ?aF ?aO ?aB ?aS ?aL ?_;(case aP => exact rfl);(case aB => exact (by repeat (with_reducible first|exact HB.out|apply za|apply zb|apply zc|refine zd ?_ GE264.out|refine zd ?_ GE265.out|refine zd ?_ GE282.out)));(case aF => exact (fun _ _ => trivial));(case aO => exact (by (with_reducible repeat (first|apply zm|apply zn|apply zo));exact zM (zE (p:=⟨gb282,1,none⟩) (zE (p:=⟨gb282,0,none⟩) (yf HO_9.out BK282.out (by decide)) (fun _ hk => hk.2) (.int .i64 ((rd_T67 y277 x30_1).f0))) (fun _ hk => hk.2) (.slice A281_1 ((rd_T67 y277 x30_1).f1).length c281_1)) (fun _ hk => trivial)));(case aS => exact (zB (by repeat (with_reducible first|exact HB.out|apply za|apply zb|apply zc|refine zd ?_ GE264.out|refine zd ?_ GE265.out|refine zd ?_ GE282.out))));(case aL => have:=LMc31.out;omega);intro v284 w38 ho hb hg hat;rw [← Ny283.out] at ho;replace HO_7:=zh (Kd.R_over' (by (with_reducible repeat (first|apply zm|apply zn|apply zo));exact (zM (zE (p:=⟨gb282,1,none⟩) (zE (p:=⟨gb282,0,none⟩) (yf HO_7.out BK282.out (by decide)) (fun _ hk => hk.2) (.int .i64 ((rd_T67 y277 x30_1).f0))) (fun _ hk => hk.2) (.slice A281_1 ((rd_T67 y277 x30_1).f1).length c281_1)) (fun _ h_ => h_.1))) (Kd.R_typed (by (with_reducible repeat (first|apply zm|apply zn|apply zo));exact (zM (zE (p:=⟨gb282,1,none⟩) (zE (p:=⟨gb282,0,none⟩) (yf HO_9.out BK282.out (by decide)) (fun _ hk => hk.2) (.int .i64 ((rd_T67 y277 x30_1).f0))) (fun _ hk => hk.2) (.slice A281_1 ((rd_T67 y277 x30_1).f1).length c281_1)) (fun _ h_ => h_.1)))) (by decide) hg);replace BK264:=zh (yv (g:=gb264) (o:=.cells #[.slice A0_0 l0_0.length c0_0,.int .i64 a0_1] 35 (0,0)) (by (with_reducible repeat first|apply ze|apply zf|apply zg);refine cS2 ?_ NB264_282.out;(with_reducible repeat first|apply ze|apply zf|apply zg);exact BK264.out) hg (Kd.R_ne HO_9.out BK264.out (by decide)));replace BK265:=zh (yv (g:=gb265) (o:=.cells #[.string a1_0,.string a1_1,.bool true] 37 (0,0)) (by (with_reducible repeat first|apply ze|apply zf|apply zg);refine cS2 ?_ NB265_282.out;(with_reducible repeat first|apply ze|apply zf|apply zg);exact BK265.out) hg (Kd.R_ne HO_9.out BK265.out (by decide)));replace BK282:=zh (yv (g:=gb282) (o:=.cells #[.int .i64 ((rd_T67 y277 x30_1).f0),.slice A281_1 ((rd_T67 y277 x30_1).f1).length c281_1] 67 (0,0)) (by (with_reducible repeat first|apply ze|apply zf|apply zg);refine zL (cs:=#[.int .i64 ((rd_T67 y277 x30_1).f0),.slice none 0 0]) ?_ 1 _ rfl;(with_reducible repeat first|apply ze|apply zf|apply zg);refine zL (cs:=#[.int .i64 0,.slice none 0 0]) ?_ 0 _ rfl;(with_reducible repeat first|apply ze|apply zf|apply zg);exact BK282.out) hg (Kd.R_ne HO_9.out BK282.out (by decide)));replace HB:=zh (hb);have HO285:=zh (ho);clear HO_9 ho hb hg hat)))
            go_roundg k1
            case measure => have:=HK1.out;omega
            case rel => exact ⟨(y283),(wrap64 (x30_1 + 1)),(by first|rfl|(simp;done)|(simp [*];done)),H',⟨by have:=HK1.out;omega⟩,⟨by (with_reducible repeat (first|apply zm|apply zn|apply zo));exact HO_7.out⟩,⟨by (with_reducible repeat (first|apply zm|apply zn|apply zo));exact HO285.out⟩,⟨by (with_reducible repeat first|apply ze|apply zf|apply zg);exact BK264.out⟩,⟨by (with_reducible repeat first|apply ze|apply zf|apply zg);exact BK265.out⟩,⟨by repeat (with_reducible first|exact HB.out|apply za|apply zb|apply zc|refine zd ?_ GE264.out|refine zd ?_ GE265.out|refine zd ?_ GE282.out)⟩⟩
           rw [if_neg c31] at H;exact absurd H (by simp)
          replace c30:=yb.mpr c30;subst c30;have H1 : (if 0<(((rd_T67 y277 x30_1).f1).length : Int) then (if ((Op.bytesLess (((rd_T51 ((rd_T67 y277 x30_1).f1) 0).f0).toList) a1_1.toList)=true) then (if x9_1.length<17592186044416 then (F9.l0 k1 t270 (x9_1 ++ [(rd_T67 y277 x30_1).f0]) y277 (y277.length : Int) (wrap64 (x30_1 + 1)) a1_0 a1_1 false) else (none)) else (some (t270,x9_1,0))) else (none))=some (r1,r2,r3):=by rw [if_neg (show ¬ (false=true) by decide)] at H;exact H
          clear H;have H:=H1;clear H1
          by_cases c39 : 0<(((rd_T67 y277 x30_1).f1).length : Int)
          ·
           rw [if_pos c39] at H
           have c39b0 : decide (0<(((rd_T67 y277 x30_1).f1).length : Int))=true:=decide_eq_true c39;have c39b1 : decide (0<((rd_T67 y277 x30_1).f1).length)=true:=decide_eq_true (by omega);clear c39
           by_cases c40 : ((Op.bytesLess (((rd_T51 ((rd_T67 y277 x30_1).f1) 0).f0).toList) a1_1.toList)=true)
           ·
            rw [if_pos c40] at H
            have c40b0 : (Op.bytesLess (((rd_T51 ((rd_T67 y277 x30_1).f1) 0).f0).toList) a1_1.toList)=true:=c40;clear c40
            by_cases c41 : x9_1.length<17592186044416
            ·
             rw [if_pos c41] at H
             have LMc41:=zh c41;clear c41;obtain ⟨y287,hy287⟩ : ∃ y_ : List Int,y_=(x9_1 ++ [(rd_T67 y277 x30_1).f0]):=⟨_,rfl⟩;replace H : (F9.l0 k1 t270 y287 y277 (y277.length : Int) (wrap64 (x30_1 + 1)) a1_0 a1_1 false)=some (r1,r2,r3):=by first|(rw [hy287];with_reducible exact H)|(have H2_:=(Option.bind_some _ _).symm.trans H;rw [hy287];with_reducible exact H2_)|(have H2_:=(Option.bind_some _ _).symm.trans H;with_reducible exact H2_)|with_reducible exact H|(rw [hy287];exact H)|exact H
             have Ny287:=zh hy287;clear hy287;have H':=zh H;clear H;have p281 : 0≤(x30_1 : Int):=zy (by first|(with_reducible assumption)|assumption);have q281 : x30_1<(y277.length : Int):=zy (by first|(with_reducible assumption)|assumption);obtain ⟨ad281,A281_1,c281_1,e281,hx281_0,hx281_1,hl281_1,hi281_1⟩:=at_T67 HR280.out x30_1 p281 q281
             cases e281
             replace hx281_0:=(HB.out.cell (zl w _ hx281_0)).trans hx281_0;replace hx281_1:=(HB.out.cell (zl w _ hx281_1)).trans hx281_1;have HR281_1:=zh hi281_1;have HC281_1:=zh hl281_1;clear hi281_1 hl281_1;replace p281:=eq_true p281;replace q281:=eq_true q281
             go_wp2_with (first|((with_reducible refine zK (N:=11) rfl ?_);refine zI ?hg (N:=11) ?hd (cs:=#[.int .i64 0,.slice none 0 0]) (t:=67) ?hr ?_;(case hd|hg => rfl);(case hr => go_simp <;> rfl);intro gb282 hg w42 hbox hb;replace HO_7:=zh (yg (by (with_reducible repeat (first|apply zm|apply zn|apply zo));exact HO_7.out) hb);replace HO_9:=zh (yg (by (with_reducible repeat (first|apply zm|apply zn|apply zo));exact HO_9.out) hb);have BK282:=zh (hbox);have hH_:=cH (by repeat (with_reducible first|exact HB.out|apply za|apply zb|apply zc|refine zd ?_ GE264.out|refine zd ?_ GE265.out)) hb hg;have GW282:=zh hH_.1;have GE282:=GW282;replace HB:=zh hH_.2;have NB264_282:=zh ((by rw [hg];exact yc (yi (g:=gb264) (o:=.cells #[.slice A0_0 l0_0.length c0_0,.int .i64 a0_1] 35 (0,0)) (by (with_reducible repeat first|apply ze|apply zf|apply zg);exact BK264.out)) : gb264≠gb282));have NB282_264:=zh NB264_282.out.symm;replace BK264:=zh (cD BK264.out (by (with_reducible repeat first|apply ze|apply zf|apply zg);exact BK264.out) hb);have NB265_282:=zh ((by rw [hg];exact yc (yi (g:=gb265) (o:=.cells #[.string a1_0,.string a1_1,.bool false] 37 (0,0)) (by (with_reducible repeat first|apply ze|apply zf|apply zg);exact BK265.out)) : gb265≠gb282));have NB282_265:=zh NB265_282.out.symm;replace BK265:=zh (cD BK265.out (by (with_reducible repeat first|apply ze|apply zf|apply zg);exact BK265.out) hb);clear hb hbox hg hH_;have hnb43:=NB282_264.out;have hnc43:=NB264_282.out;have hnb44:=NB282_265.out;have hnc44:=NB265_282.out;obtain ⟨hcz45_0,hcz45_1,hfz45_0,hfz45_1⟩:=cB2 BK282.out;have hnb46:=NB265_264.out;have hnc46:=NB264_265.out;obtain ⟨hcz47_0,hcz47_1,hcz47_2,hfz47_0,hfz47_1,hfz47_2⟩:=cB3 BK265.out;have p286 : 0≤(0 : Int):=(by omega);have q286 : 0<(((rd_T67 y277 x30_1).f1).length : Int):=zy (by first|(with_reducible assumption)|assumption);obtain ⟨ad286,e286,hx286_0,hx286_1⟩:=at_T51 HR281_1.out 0 p286 q286;cases e286;have qi286 : (0<((rd_T67 y277 x30_1).f1).length)=True:=eq_true (by omega);(try rw [show ((0 : Int)).toNat=0 from rfl] at hx286_0);(try rw [show 0 * 2=0 from rfl] at hx286_0);(try rw [Addr.add_zero'] at hx286_0);(try rw [show ((0 : Int)).toNat=0 from rfl] at hx286_1);(try rw [show 0 * 2=0 from rfl] at hx286_1);(try rw [Addr.add_zero'] at hx286_1);have hn286_0 : ad286.block≠gb282:=yc (Nat.lt_of_lt_of_le (by have:=zl _ _ hx286_0;first|rwa [zF] at this|exact this) GW282.out);have hn286_1 : ad286.block≠gb282:=yc (Nat.lt_of_lt_of_le (by have:=zl _ _ hx286_0;first|rwa [zF] at this|exact this) GW282.out);replace hx286_0:=(HB.out.cell (zl w _ hx286_0)).trans hx286_0;replace hx286_1:=(HB.out.cell (zl w _ hx286_1)).trans hx286_1;replace hx286_0:=(zR (p:=⟨gb282,0,none⟩) (by first|(rw [zF];exact hn286_0)|(show (Addr.add _ _).block≠_;rw [zF];exact hn286_0)|exact hn286_0) (.int .i64 ((rd_T67 y277 x30_1).f0))).trans hx286_0;replace hx286_1:=(zR (p:=⟨gb282,0,none⟩) (by first|(rw [zF];exact hn286_0)|(show (Addr.add _ _).block≠_;rw [zF];exact hn286_0)|exact hn286_0) (.int .i64 ((rd_T67 y277 x30_1).f0))).trans hx286_1;replace hx286_0:=(zR (p:=⟨gb282,1,none⟩) (by first|(rw [zF];exact hn286_1)|(show (Addr.add _ _).block≠_;rw [zF];exact hn286_1)|exact hn286_1) (.slice (some ad286) ((rd_T67 y277 x30_1).f1).length c281_1)).trans hx286_0;replace hx286_1:=(zR (p:=⟨gb282,1,none⟩) (by first|(rw [zF];exact hn286_1)|(show (Addr.add _ _).block≠_;rw [zF];exact hn286_1)|exact hn286_1) (.slice (some ad286) ((rd_T67 y277 x30_1).f1).length c281_1)).trans hx286_1;(try have hy286_0:=fun (n_ : Nat) => (show ((((w42.drewN n_).setCell ⟨gb282,0,none⟩ (.int .i64 ((rd_T67 y277 x30_1).f0))).setCell ⟨gb282,1,none⟩ (.slice (some ad286) ((rd_T67 y277 x30_1).f1).length c281_1))).cell? _=some _ from hx286_0));(try have hy286_1:=fun (n_ : Nat) => (show ((((w42.drewN n_).setCell ⟨gb282,0,none⟩ (.int .i64 ((rd_T67 y277 x30_1).f0))).setCell ⟨gb282,1,none⟩ (.slice (some ad286) ((rd_T67 y277 x30_1).f1).length c281_1))).cell? _=some _ from hx286_1));clear hn286_0 hn286_1;replace p286:=eq_true p286;replace q286:=eq_true q286)|((with_reducible refine yA (b:=.append) (xs:=#[.tmp 52,.tmp 55]) rfl ?_);at_builtin;refine Kd.R_append (Kd.int .i64) (w0:=w) w.heap.size rfl (.tmp 52) (.tmp 55) 30 3 (.int .i64 0) 8 rfl Try.underlying30 info3 rfl (by decide) (by omega) u9 x9_1 ((rd_T67 y277 x30_1).f0) [.int .i64 ((rd_T67 y277 x30_1).f0)] (fun _ => True) (fun _ => False) rfl (by go_simp <;> rfl) ?aP (fun _ hk => hk.elim) ?aF ?aO ?aB ?aS ?aL ?_;(case aP => exact rfl);(case aB => exact (by repeat (with_reducible first|exact HB.out|apply za|apply zb|apply zc|refine zd ?_ GE264.out|refine zd ?_ GE265.out|refine zd ?_ GE282.out)));(case aF => exact (fun _ _ => trivial));(case aO => exact (by (with_reducible repeat (first|apply zm|apply zn|apply zo));exact zM (zE (p:=⟨gb282,1,none⟩) (zE (p:=⟨gb282,0,none⟩) (yf HO_9.out BK282.out (by decide)) (fun _ hk => hk.2) (.int .i64 ((rd_T67 y277 x30_1).f0))) (fun _ hk => hk.2) (.slice (some ad286) ((rd_T67 y277 x30_1).f1).length c281_1)) (fun _ hk => trivial)));(case aS => exact (zB (by repeat (with_reducible first|exact HB.out|apply za|apply zb|apply zc|refine zd ?_ GE264.out|refine zd ?_ GE265.out|refine zd ?_ GE282.out))));(case aL => have:=LMc41.out;omega);intro v288 w48 ho hb hg hat;rw [← Ny287.out] at ho;replace HO_7:=zh (Kd.R_over' (by (with_reducible repeat (first|apply zm|apply zn|apply zo));exact (zM (zE (p:=⟨gb282,1,none⟩) (zE (p:=⟨gb282,0,none⟩) (yf HO_7.out BK282.out (by decide)) (fun _ hk => hk.2) (.int .i64 ((rd_T67 y277 x30_1).f0))) (fun _ hk => hk.2) (.slice (some ad286) ((rd_T67 y277 x30_1).f1).length c281_1)) (fun _ h_ => h_.1))) (Kd.R_typed (by (with_reducible repeat (first|apply zm|apply zn|apply zo));exact (zM (zE (p:=⟨gb282,1,none⟩) (zE (p:=⟨gb282,0,none⟩) (yf HO_9.out BK282.out (by decide)) (fun _ hk => hk.2) (.int .i64 ((rd_T67 y277 x30_1).f0))) (fun _ hk => hk.2) (.slice (some ad286) ((rd_T67 y277 x30_1).f1).length c281_1)) (fun _ h_ => h_.1)))) (by decide) hg);replace BK264:=zh (yv (g:=gb264) (o:=.cells #[.slice A0_0 l0_0.length c0_0,.int .i64 a0_1] 35 (0,0)) (by (with_reducible repeat first|apply ze|apply zf|apply zg);refine cS2 ?_ NB264_282.out;(with_reducible repeat first|apply ze|apply zf|apply zg);exact BK264.out) hg (Kd.R_ne HO_9.out BK264.out (by decide)));replace BK265:=zh (yv (g:=gb265) (o:=.cells #[.string a1_0,.string a1_1,.bool false] 37 (0,0)) (by (with_reducible repeat first|apply ze|apply zf|apply zg);refine cS2 ?_ NB265_282.out;(with_reducible repeat first|apply ze|apply zf|apply zg);exact BK265.out) hg (Kd.R_ne HO_9.out BK265.out (by decide)));replace BK282:=zh (yv (g:=gb282) (o:=.cells #[.int .i64 ((rd_T67 y277 x30_1).f0),.slice (some ad286) ((rd_T67 y277 x30_1).f1).length c281_1] 67 (0,0)) (by (with_reducible repeat first|apply ze|apply zf|apply zg);refine zL (cs:=#[.int .i64 ((rd_T67 y277 x30_1).f0),.slice none 0 0]) ?_ 1 _ rfl;(with_reducible repeat first|apply ze|apply zf|apply zg);refine zL (cs:=#[.int .i64 0,.slice none 0 0]) ?_ 0 _ rfl;(with_reducible repeat first|apply ze|apply zf|apply zg);exact BK282.out) hg (Kd.R_ne HO_9.out BK282.out (by decide)));replace HB:=zh (hb);have HO289:=zh (ho);clear HO_9 ho hb hg hat))
             repeat (go_quiet (first|((with_reducible refine zK (N:=11) rfl ?_);refine zI ?hg (N:=11) ?hd (cs:=#[.int .i64 0,.slice none 0 0]) (t:=67) ?hr ?_;(case hd|hg => rfl);(case hr => go_simp <;> rfl);intro gb282 hg w42 hbox hb;replace HO_7:=zh (yg (by (with_reducible repeat (first|apply zm|apply zn|apply zo));exact HO_7.out) hb);replace HO_9:=zh (yg (by (with_reducible repeat (first|apply zm|apply zn|apply zo));exact HO_9.out) hb);have BK282:=zh (hbox);have hH_:=cH (by repeat (with_reducible first|exact HB.out|apply za|apply zb|apply zc|refine zd ?_ GE264.out|refine zd ?_ GE265.out)) hb hg;have GW282:=zh hH_.1;have GE282:=GW282;replace HB:=zh hH_.2;have NB264_282:=zh ((by rw [hg];exact yc (yi (g:=gb264) (o:=.cells #[.slice A0_0 l0_0.length c0_0,.int .i64 a0_1] 35 (0,0)) (by (with_reducible repeat first|apply ze|apply zf|apply zg);exact BK264.out)) : gb264≠gb282));have NB282_264:=zh NB264_282.out.symm;replace BK264:=zh (cD BK264.out (by (with_reducible repeat first|apply ze|apply zf|apply zg);exact BK264.out) hb);have NB265_282:=zh ((by rw [hg];exact yc (yi (g:=gb265) (o:=.cells #[.string a1_0,.string a1_1,.bool false] 37 (0,0)) (by (with_reducible repeat first|apply ze|apply zf|apply zg);exact BK265.out)) : gb265≠gb282));have NB282_265:=zh NB265_282.out.symm;replace BK265:=zh (cD BK265.out (by (with_reducible repeat first|apply ze|apply zf|apply zg);exact BK265.out) hb);clear hb hbox hg hH_;have hnb43:=NB282_264.out;have hnc43:=NB264_282.out;have hnb44:=NB282_265.out;have hnc44:=NB265_282.out;obtain ⟨hcz45_0,hcz45_1,hfz45_0,hfz45_1⟩:=cB2 BK282.out;have hnb46:=NB265_264.out;have hnc46:=NB264_265.out;obtain ⟨hcz47_0,hcz47_1,hcz47_2,hfz47_0,hfz47_1,hfz47_2⟩:=cB3 BK265.out;have p286 : 0≤(0 : Int):=(by omega);have q286 : 0<(((rd_T67 y277 x30_1).f1).length : Int):=zy (by first|(with_reducible assumption)|assumption);obtain ⟨ad286,e286,hx286_0,hx286_1⟩:=at_T51 HR281_1.out 0 p286 q286;cases e286;have qi286 : (0<((rd_T67 y277 x30_1).f1).length)=True:=eq_true (by omega);(try rw [show ((0 : Int)).toNat=0 from rfl] at hx286_0);(try rw [show 0 * 2=0 from rfl] at hx286_0);(try rw [Addr.add_zero'] at hx286_0);(try rw [show ((0 : Int)).toNat=0 from rfl] at hx286_1);(try rw [show 0 * 2=0 from rfl] at hx286_1);(try rw [Addr.add_zero'] at hx286_1);have hn286_0 : ad286.block≠gb282:=yc (Nat.lt_of_lt_of_le (by have:=zl _ _ hx286_0;first|rwa [zF] at this|exact this) GW282.out);have hn286_1 : ad286.block≠gb282:=yc (Nat.lt_of_lt_of_le (by have:=zl _ _ hx286_0;first|rwa [zF] at this|exact this) GW282.out);replace hx286_0:=(HB.out.cell (zl w _ hx286_0)).trans hx286_0;replace hx286_1:=(HB.out.cell (zl w _ hx286_1)).trans hx286_1;replace hx286_0:=(zR (p:=⟨gb282,0,none⟩) (by first|(rw [zF];exact hn286_0)|(show (Addr.add _ _).block≠_;rw [zF];exact hn286_0)|exact hn286_0) (.int .i64 ((rd_T67 y277 x30_1).f0))).trans hx286_0;replace hx286_1:=(zR (p:=⟨gb282,0,none⟩) (by first|(rw [zF];exact hn286_0)|(show (Addr.add _ _).block≠_;rw [zF];exact hn286_0)|exact hn286_0) (.int .i64 ((rd_T67 y277 x30_1).f0))).trans hx286_1;replace hx286_0:=(zR (p:=⟨gb282,1,none⟩) (by first|(rw [zF];exact hn286_1)|(show (Addr.add _ _).block≠_;rw [zF];exact hn286_1)|exact hn286_1) (.slice (some ad286) ((rd_T67 y277 x30_1).f1).length c281_1)).trans hx286_0;replace hx286_1:=(zR (p:=⟨gb282,1,none⟩) (by first|(rw [zF];exact hn286_1)|(show (Addr.add _ _).block≠_;rw [zF];exact hn286_1)|exact hn286_1) (.slice (some ad286) ((rd_T67 y277 x30_1).f1).length c281_1)).trans hx286_1;(try have hy286_0:=fun (n_ : Nat) => (show ((((w42.drewN n_).setCell ⟨gb282,0,none⟩ (.int .i64 ((rd_T67 y277 x30_1).f0))).setCell ⟨gb282,1,none⟩ (.slice (some ad286) ((rd_T67 y277 x30_1).f1).length c281_1))).cell? _=some _ from hx286_0));(try have hy286_1:=fun (n_ : Nat) => (show ((((w42.drewN n_).setCell ⟨gb282,0,none⟩ (.int .i64 ((rd_T67 y277 x30_1).f0))).setCell ⟨gb282,1,none⟩ (.slice (some ad286) ((rd_T67 y277 x30_1).f1).length c281_1))).cell? _=some _ from hx286_1));clear hn286_0 hn286_1;replace p286:=eq_true p286;replace q286:=eq_true q286)|((with_reducible refine yA (b:=.append) (xs:=#[.tmp 52,.tmp 55]) rfl ?_);at_builtin;refine Kd.R_append (Kd.int .i64) (w0:=w) w.heap.size rfl (.tmp 52) (.tmp 55) 30 3 (.int .i64 0) 8 rfl Try.underlying30 info3 rfl (by decide) (by omega) u9 x9_1 ((rd_T67 y277 x30_1).f0) [.int .i64 ((rd_T67 y277 x30_1).f0)] (fun _ => True) (fun _ => False) rfl (by go_simp <;> rfl) ?aP (fun _ hk => hk.elim) ?aF ?aO ?aB ?aS ?aL ?_;(case aP => exact rfl);(case aB => exact (by repeat (with_reducible first|exact HB.out|apply za|apply zb|apply zc|refine zd ?_ GE264.out|refine zd ?_ GE265.out|refine zd ?_ GE282.out)));(case aF => exact (fun _ _ => trivial));(case aO => exact (by (with_reducible repeat (first|apply zm|apply zn|apply zo));exact zM (zE (p:=⟨gb282,1,none⟩) (zE (p:=⟨gb282,0,none⟩) (yf HO_9.out BK282.out (by decide)) (fun _ hk => hk.2) (.int .i64 ((rd_T67 y277 x30_1).f0))) (fun _ hk => hk.2) (.slice (some ad286) ((rd_T67 y277 x30_1).f1).length c281_1)) (fun _ hk => trivial)));(case aS => exact (zB (by repeat (with_reducible first|exact HB.out|apply za|apply zb|apply zc|refine zd ?_ GE264.out|refine zd ?_ GE265.out|refine zd ?_ GE282.out))));(case aL => have:=LMc41.out;omega);intro v288 w48 ho hb hg hat;rw [← Ny287.out] at ho;replace HO_7:=zh (Kd.R_over' (by (with_reducible repeat (first|apply zm|apply zn|apply zo));exact (zM (zE (p:=⟨gb282,1,none⟩) (zE (p:=⟨gb282,0,none⟩) (yf HO_7.out BK282.out (by decide)) (fun _ hk => hk.2) (.int .i64 ((rd_T67 y277 x30_1).f0))) (fun _ hk => hk.2) (.slice (some ad286) ((rd_T67 y277 x30_1).f1).length c281_1)) (fun _ h_ => h_.1))) (Kd.R_typed (by (with_reducible repeat (first|apply zm|apply zn|apply zo));exact (zM (zE (p:=⟨gb282,1,none⟩) (zE (p:=⟨gb282,0,none⟩) (yf HO_9.out BK282.out (by decide)) (fun _ hk => hk.2) (.int .i64 ((rd_T67 y277 x30_1).f0))) (fun _ hk => hk.2) (.slice (some ad286) ((rd_T67 y277 x30_1).f1).length c281_1)) (fun _ h_ => h_.1)))) (by decide) hg);replace BK264:=zh (yv (g:=gb264) (o:=.cells #[.slice A0_0 l0_0.length c0_0,.int .i64 a0_1] 35 (0,0)) (by (with_reducible repeat first|apply ze|apply zf|apply zg);refine cS2 ?_ NB264_282.out;(with_reducible repeat first|apply ze|apply zf|apply zg);exact BK264.out) hg (Kd.R_ne HO_9.out BK264.out (by decide)));replace BK265:=zh (yv (g:=gb265) (o:=.cells #[.string a1_0,.string a1_1,.bool false] 37 (0,0)) (by (with_reducible repeat first|apply ze|apply zf|apply zg);refine cS2 ?_ NB265_282.out;(with_reducible repeat first|apply ze|apply zf|apply zg);exact BK265.out) hg (Kd.R_ne HO_9.out BK265.out (by decide)));replace BK282:=zh (yv (g:=gb282) (o:=.cells #[.int .i64 ((rd_T67 y277 x30_1).f0),.slice (some ad286) ((rd_T67 y277 x30_1).f1).length c281_1] 67 (0,0)) (by (with_reducible repeat first|apply ze|apply zf|apply zg);refine zL (cs:=#[.int .i64 ((rd_T67 y277 x30_1).f0),.slice none 0 0]) ?_ 1 _ rfl;(with_reducible repeat first|apply ze|apply zf|apply zg);refine zL (cs:=#[.int .i64 0,.slice none 0 0]) ?_ 0 _ rfl;(with_reducible repeat first|apply ze|apply zf|apply zg);exact BK282.out) hg (Kd.R_ne HO_9.out BK282.out (by decide)));replace HB:=zh (hb);have HO289:=zh (ho);clear HO_9 ho hb hg hat));try go_wp2_with (first|((with_reducible refine zK (N:=11) rfl ?_);refine zI ?hg (N:=11) ?hd (cs:=#[.int .i64 0,.slice none 0 0]) (t:=67) ?hr ?_;(case hd|hg => rfl);(case hr => go_simp <;> rfl);intro gb282 hg w42 hbox hb;replace HO_7:=zh (yg (by (with_reducible repeat (first|apply zm|apply zn|apply zo));exact HO_7.out) hb);replace HO_9:=zh (yg (by (with_reducible repeat (first|apply zm|apply zn|apply zo));exact HO_9.out) hb);have BK282:=zh (hbox);have hH_:=cH (by repeat (with_reducible first|exact HB.out|apply za|apply zb|apply zc|refine zd ?_ GE264.out|refine zd ?_ GE265.out)) hb hg;have GW282:=zh hH_.1;have GE282:=GW282;replace HB:=zh hH_.2;have NB264_282:=zh ((by rw [hg];exact yc (yi (g:=gb264) (o:=.cells #[.slice A0_0 l0_0.length c0_0,.int .i64 a0_1] 35 (0,0)) (by (with_reducible repeat first|apply ze|apply zf|apply zg);exact BK264.out)) : gb264≠gb282));have NB282_264:=zh NB264_282.out.symm;replace BK264:=zh (cD BK264.out (by (with_reducible repeat first|apply ze|apply zf|apply zg);exact BK264.out) hb);have NB265_282:=zh ((by rw [hg];exact yc (yi (g:=gb265) (o:=.cells #[.string a1_0,.string a1_1,.bool false] 37 (0,0)) (by (with_reducible repeat first|apply ze|apply zf|apply zg);exact BK265.out)) : gb265≠gb282));have NB282_265:=zh NB265_282.out.symm;replace BK265:=zh (cD BK265.out (by (with_reducible repeat first|apply ze|apply zf|apply zg);exact BK265.out) hb);clear hb hbox hg hH_;have hnb43:=NB282_264.out;have hnc43:=NB264_282.out;have hnb44:=NB282_265.out;have hnc44:=NB265_282.out;obtain ⟨hcz45_0,hcz45_1,hfz45_0,hfz45_1⟩:=cB2 BK282.out;have hnb46:=NB265_264.out;have hnc46:=NB264_265.out;obtain ⟨hcz47_0,hcz47_1,hcz47_2,hfz47_0,hfz47_1,hfz47_2⟩:=cB3 BK265.out;have p286 : 0≤(0 : Int):=(by omega);have q286 : 0<(((rd_T67 y277 x30_1).f1).length : Int):=zy (by first|(with_reducible assumption)|assumption);obtain ⟨ad286,e286,hx286_0,hx286_1⟩:=at_T51 HR281_1.out 0 p286 q286;cases e286;have qi286 : (0<((rd_T67 y277 x30_1).f1).length)=True:=eq_true (by omega);(try rw [show ((0 : Int)).toNat=0 from rfl] at hx286_0);(try rw [show 0 * 2=0 from rfl] at hx286_0);(try rw [Addr.add_zero'] at hx286_0);(try rw [show ((0 : Int)).toNat=0 from rfl] at hx286_1);(try rw [show 0 * 2=0 from rfl] at hx286_1);(try rw [Addr.add_zero'] at hx286_1);have hn286_0 : ad286.block≠gb282:=yc (Nat.lt_of_lt_of_le (by have:=zl _ _ hx286_0;first|rwa [zF] at this|exact this) GW282.out);have hn286_1 : ad286.block≠gb282:=yc (Nat.lt_of_lt_of_le (by have:=zl _ _ hx286_0;first|rwa [zF] at this|exact this) GW282.out);replace hx286_0:=(HB.out.cell (zl w _ hx286_0)).trans hx286_0;replace hx286_1:=(HB.out.cell (zl w _ hx286_1)).trans hx286_1;replace hx286_0:=(zR (p:=⟨gb282,0,none⟩) (by first|(rw [zF];exact hn286_0)|(show (Addr.add _ _).block≠_;rw [zF];exact hn286_0)|exact hn286_0) (.int .i64 ((rd_T67 y277 x30_1).f0))).trans hx286_0;replace hx286_1:=(zR (p:=⟨gb282,0,none⟩) (by first|(rw [zF];exact hn286_0)|(show (Addr.add _ _).block≠_;rw [zF];exact hn286_0)|exact hn286_0) (.int .i64 ((rd_T67 y277 x30_1).f0))).trans hx286_1;replace hx286_0:=(zR (p:=⟨gb282,1,none⟩) (by first|(rw [zF];exact hn286_1)|(show (Addr.add _ _).block≠_;rw [zF];exact hn286_1)|exact hn286_1) (.slice (some ad286) ((rd_T67 y277 x30_1).f1).length c281_1)).trans hx286_0;replace hx286_1:=(zR (p:=⟨gb282,1,none⟩) (by first|(rw [zF];exact hn286_1)|(show (Addr.add _ _).block≠_;rw [zF];exact hn286_1)|exact hn286_1) (.slice (some ad286) ((rd_T67 y277 x30_1).f1).length c281_1)).trans hx286_1;(try have hy286_0:=fun (n_ : Nat) => (show ((((w42.drewN n_).setCell ⟨gb282,0,none⟩ (.int .i64 ((rd_T67 y277 x30_1).f0))).setCell ⟨gb282,1,none⟩ (.slice (some ad286) ((rd_T67 y277 x30_1).f1).length c281_1))).cell? _=some _ from hx286_0));(try have hy286_1:=fun (n_ : Nat) => (show ((((w42.drewN n_).setCell ⟨gb282,0,none⟩ (.int .i64 ((rd_T67 y277 x30_1).f0))).setCell ⟨gb282,1,none⟩ (.slice (some ad286) ((rd_T67 y277 x30_1).f1).length c281_1))).cell? _=some _ from hx286_1));clear hn286_0 hn286_1;replace p286:=eq_true p286;replace q286:=eq_true q286)|((with_reducible refine yA (b:=.append) (xs:=#[.tmp 52,.tmp 55]) rfl ?_);at_builtin;refine Kd.R_append (Kd.int .i64) (w0:=w) w.heap.size rfl (.tmp 52) (.tmp 55) 30 3 (.int .i64 0) 8 rfl Try.underlying30 info3 rfl (by decide) (by omega) u9 x9_1 ((rd_T67 y277 x30_1).f0) [.int .i64 ((rd_T67 y277 x30_1).f0)] (fun _ => True) (fun _ => False) rfl (by go_simp <;> rfl) ?aP (fun _ hk => hk.elim) ?aF ?aO ?aB ?aS ?aL ?_;(case aP => exact rfl);(case aB => exact (by repeat (with_reducible first|exact HB.out|apply za|apply zb|apply zc|refine zd ?_ GE264.out|refine zd ?_ GE265.out|refine zd ?_ GE282.out)));(case aF => exact (fun _ _ => trivial));(case aO => exact (by (with_reducible repeat (first|apply zm|apply zn|apply zo));exact zM (zE (p:=⟨gb282,1,none⟩) (zE (p:=⟨gb282,0,none⟩) (yf HO_9.out BK282.out (by decide)) (fun _ hk => hk.2) (.int .i64 ((rd_T67 y277 x30_1).f0))) (fun _ hk => hk.2) (.slice (some ad286) ((rd_T67 y277 x30_1).f1).length c281_1)) (fun _ hk => trivial)));(case aS => exact (zB (by repeat (with_reducible first|exact HB.out|apply za|apply zb|apply zc|refine zd ?_ GE264.out|refine zd ?_ GE265.out|refine zd ?_ GE282.out))));(case aL => have:=LMc41.out;omega);intro v288 w48 ho hb hg hat;rw [← Ny287.out] at ho;replace HO_7:=zh (Kd.R_over' (by (with_reducible repeat (first|apply zm|apply zn|apply zo));exact (zM (zE (p:=⟨gb282,1,none⟩) (zE (p:=⟨gb282,0,none⟩) (yf HO_7.out BK282.out (by decide)) (fun _ hk => hk.2) (.int .i64 ((rd_T67 y277 x30_1).f0))) (fun _ hk => hk.2) (.slice (some ad286) ((rd_T67 y277 x30_1).f1).length c281_1)) (fun _ h_ => h_.1))) (Kd.R_typed (by (with_reducible repeat (first|apply zm|apply zn|apply zo));exact (zM (zE (p:=⟨gb282,1,none⟩) (zE (p:=⟨gb282,0,none⟩) (yf HO_9.out BK282.out (by decide)) (fun _ hk => hk.2) (.int .i64 ((rd_T67 y277 x30_1).f0))) (fun _ hk => hk.2) (.slice (some ad286) ((rd_T67 y277 x30_1).f1).length c281_1)) (fun _ h_ => h_.1)))) (by decide) hg);replace BK264:=zh (yv (g:=gb264) (o:=.cells #[.slice A0_0 l0_0.length c0_0,.int .i64 a0_1] 35 (0,0)) (by (with_reducible repeat first|apply ze|apply zf|apply zg);refine cS2 ?_ NB264_282.out;(with_reducible repeat first|apply ze|apply zf|apply zg);exact BK264.out) hg (Kd.R_ne HO_9.out BK264.out (by decide)));replace BK265:=zh (yv (g:=gb265) (o:=.cells #[.string a1_0,.string a1_1,.bool false] 37 (0,0)) (by (with_reducible repeat first|apply ze|apply zf|apply zg);refine cS2 ?_ NB265_282.out;(with_reducible repeat first|apply ze|apply zf|apply zg);exact BK265.out) hg (Kd.R_ne HO_9.out BK265.out (by decide)));replace BK282:=zh (yv (g:=gb282) (o:=.cells #[.int .i64 ((rd_T67 y277 x30_1).f0),.slice (some ad286) ((rd_T67 y277 x30_1).f1).length c281_1] 67 (0,0)) (by (with_reducible repeat first|apply ze|apply zf|apply zg);refine zL (cs:=#[.int .i64 ((rd_T67 y277 x30_1).f0),.slice none 0 0]) ?_ 1 _ rfl;(with_reducible repeat first|apply ze|apply zf|apply zg);refine zL (cs:=#[.int .i64 0,.slice none 0 0]) ?_ 0 _ rfl;(with_reducible repeat first|apply ze|apply zf|apply zg);exact BK282.out) hg (Kd.R_ne HO_9.out BK282.out (by decide)));replace HB:=zh (hb);have HO289:=zh (ho);clear HO_9 ho hb hg hat)))
             go_roundg k1
             case measure => have:=HK1.out;omega
             case rel => exact ⟨(y287),(wrap64 (x30_1 + 1)),(by first|rfl|(simp;done)|(simp [*];done)),H',⟨by have:=HK1.out;omega⟩,⟨by (with_reducible repeat (first|apply zm|apply zn|apply zo));exact HO_7.out⟩,⟨by (with_reducible repeat (first|apply zm|apply zn|apply zo));exact HO289.out⟩,⟨by (with_reducible repeat first|apply ze|apply zf|apply zg);exact BK264.out⟩,⟨by (with_reducible repeat first|apply ze|apply zf|apply zg);exact BK265.out⟩,⟨by repeat (with_reducible first|exact HB.out|apply za|apply zb|apply zc|refine zd ?_ GE264.out|refine zd ?_ GE265.out|refine zd ?_ GE282.out)⟩⟩
            rw [if_neg c41] at H;exact absurd H (by simp)
           rw [if_neg c40] at H;have c40b0 : (Op.bytesLess (((rd_T51 ((rd_T67 y277 x30_1).f1) 0).f0).toList) a1_1.toList)=false:=by simpa using c40
           clear c40;simp only [Option.some.injEq,Prod.mk.injEq] at H;obtain ⟨rfl,rfl,rfl⟩:=H;have p281 : 0≤(x30_1 : Int):=zy (by first|(with_reducible assumption)|assumption);have q281 : x30_1<(y277.length : Int):=zy (by first|(with_reducible assumption)|assumption);obtain ⟨ad281,A281_1,c281_1,e281,hx281_0,hx281_1,hl281_1,hi281_1⟩:=at_T67 HR280.out x30_1 p281 q281
           cases e281
           replace hx281_0:=(HB.out.cell (zl w _ hx281_0)).trans hx281_0;replace hx281_1:=(HB.out.cell (zl w _ hx281_1)).trans hx281_1;have HR281_1:=zh hi281_1;have HC281_1:=zh hl281_1;clear hi281_1 hl281_1;replace p281:=eq_true p281;replace q281:=eq_true q281
           go_wp2_with (first|((with_reducible refine zK (N:=11) rfl ?_);refine zI ?hg (N:=11) ?hd (cs:=#[.int .i64 0,.slice none 0 0]) (t:=67) ?hr ?_;(case hd|hg => rfl);(case hr => go_simp <;> rfl);intro gb282 hg w49 hbox hb;replace HO_7:=zh (yg (by (with_reducible repeat (first|apply zm|apply zn|apply zo));exact HO_7.out) hb);replace HO_9:=zh (yg (by (with_reducible repeat (first|apply zm|apply zn|apply zo));exact HO_9.out) hb);have BK282:=zh (hbox);have hH_:=cH (by repeat (with_reducible first|exact HB.out|apply za|apply zb|apply zc|refine zd ?_ GE264.out|refine zd ?_ GE265.out)) hb hg;have GW282:=zh hH_.1;have GE282:=GW282;replace HB:=zh hH_.2;have NB264_282:=zh ((by rw [hg];exact yc (yi (g:=gb264) (o:=.cells #[.slice A0_0 l0_0.length c0_0,.int .i64 a0_1] 35 (0,0)) (by (with_reducible repeat first|apply ze|apply zf|apply zg);exact BK264.out)) : gb264≠gb282));have NB282_264:=zh NB264_282.out.symm;replace BK264:=zh (cD BK264.out (by (with_reducible repeat first|apply ze|apply zf|apply zg);exact BK264.out) hb);have NB265_282:=zh ((by rw [hg];exact yc (yi (g:=gb265) (o:=.cells #[.string a1_0,.string a1_1,.bool false] 37 (0,0)) (by (with_reducible repeat first|apply ze|apply zf|apply zg);exact BK265.out)) : gb265≠gb282));have NB282_265:=zh NB265_282.out.symm;replace BK265:=zh (cD BK265.out (by (with_reducible repeat first|apply ze|apply zf|apply zg);exact BK265.out) hb);clear hb hbox hg hH_;have hnb50:=NB282_264.out;have hnc50:=NB264_282.out;have hnb51:=NB282_265.out;have hnc51:=NB265_282.out;obtain ⟨hcz52_0,hcz52_1,hfz52_0,hfz52_1⟩:=cB2 BK282.out;have hnb53:=NB265_264.out;have hnc53:=NB264_265.out;obtain ⟨hcz54_0,hcz54_1,hcz54_2,hfz54_0,hfz54_1,hfz54_2⟩:=cB3 BK265.out;have p286 : 0≤(0 : Int):=(by omega);have q286 : 0<(((rd_T67 y277 x30_1).f1).length : Int):=zy (by first|(with_reducible assumption)|assumption);obtain ⟨ad286,e286,hx286_0,hx286_1⟩:=at_T51 HR281_1.out 0 p286 q286;cases e286;have qi286 : (0<((rd_T67 y277 x30_1).f1).length)=True:=eq_true (by omega);(try rw [show ((0 : Int)).toNat=0 from rfl] at hx286_0);(try rw [show 0 * 2=0 from rfl] at hx286_0);(try rw [Addr.add_zero'] at hx286_0);(try rw [show ((0 : Int)).toNat=0 from rfl] at hx286_1);(try rw [show 0 * 2=0 from rfl] at hx286_1);(try rw [Addr.add_zero'] at hx286_1);have hn286_0 : ad286.block≠gb282:=yc (Nat.lt_of_lt_of_le (by have:=zl _ _ hx286_0;first|rwa [zF] at this|exact this) GW282.out);have hn286_1 : ad286.block≠gb282:=yc (Nat.lt_of_lt_of_le (by have:=zl _ _ hx286_0;first|rwa [zF] at this|exact this) GW282.out);replace hx286_0:=(HB.out.cell (zl w _ hx286_0)).trans hx286_0;replace hx286_1:=(HB.out.cell (zl w _ hx286_1)).trans hx286_1;replace hx286_0:=(zR (p:=⟨gb282,0,none⟩) (by first|(rw [zF];exact hn286_0)|(show (Addr.add _ _).block≠_;rw [zF];exact hn286_0)|exact hn286_0) (.int .i64 ((rd_T67 y277 x30_1).f0))).trans hx286_0;replace hx286_1:=(zR (p:=⟨gb282,0,none⟩) (by first|(rw [zF];exact hn286_0)|(show (Addr.add _ _).block≠_;rw [zF];exact hn286_0)|exact hn286_0) (.int .i64 ((rd_T67 y277 x30_1).f0))).trans hx286_1;replace hx286_0:=(zR (p:=⟨gb282,1,none⟩) (by first|(rw [zF];exact hn286_1)|(show (Addr.add _ _).block≠_;rw [zF];exact hn286_1)|exact hn286_1) (.slice (some ad286) ((rd_T67 y277 x30_1).f1).length c281_1)).trans hx286_0;replace hx286_1:=(zR (p:=⟨gb282,1,none⟩) (by first|(rw [zF];exact hn286_1)|(show (Addr.add _ _).block≠_;rw [zF];exact hn286_1)|exact hn286_1) (.slice (some ad286) ((rd_T67 y277 x30_1).f1).length c281_1)).trans hx286_1;(try have hy286_0:=fun (n_ : Nat) => (show ((((w49.drewN n_).setCell ⟨gb282,0,none⟩ (.int .i64 ((rd_T67 y277 x30_1).f0))).setCell ⟨gb282,1,none⟩ (.slice (some ad286) ((rd_T67 y277 x30_1).f1).length c281_1))).cell? _=some _ from hx286_0));(try have hy286_1:=fun (n_ : Nat) => (show ((((w49.drewN n_).setCell ⟨gb282,0,none⟩ (.int .i64 ((rd_T67 y277 x30_1).f0))).setCell ⟨gb282,1,none⟩ (.slice (some ad286) ((rd_T67 y277 x30_1).f1).length c281_1))).cell? _=some _ from hx286_1));clear hn286_0 hn286_1;replace p286:=eq_true p286;replace q286:=eq_true q286))
           repeat (go_quiet (first|((with_reducible refine zK (N:=11) rfl ?_);refine zI ?hg (N:=11) ?hd (cs:=#[.int .i64 0,.slice none 0 0]) (t:=67) ?hr ?_;(case hd|hg => rfl);(case hr => go_simp <;> rfl);intro gb282 hg w49 hbox hb;replace HO_7:=zh (yg (by (with_reducible repeat (first|apply zm|apply zn|apply zo));exact HO_7.out) hb);replace HO_9:=zh (yg (by (with_reducible repeat (first|apply zm|apply zn|apply zo));exact HO_9.out) hb);have BK282:=zh (hbox);have hH_:=cH (by repeat (with_reducible first|exact HB.out|apply za|apply zb|apply zc|refine zd ?_ GE264.out|refine zd ?_ GE265.out)) hb hg;have GW282:=zh hH_.1;have GE282:=GW282;replace HB:=zh hH_.2;have NB264_282:=zh ((by rw [hg];exact yc (yi (g:=gb264) (o:=.cells #[.slice A0_0 l0_0.length c0_0,.int .i64 a0_1] 35 (0,0)) (by (with_reducible repeat first|apply ze|apply zf|apply zg);exact BK264.out)) : gb264≠gb282));have NB282_264:=zh NB264_282.out.symm;replace BK264:=zh (cD BK264.out (by (with_reducible repeat first|apply ze|apply zf|apply zg);exact BK264.out) hb);have NB265_282:=zh ((by rw [hg];exact yc (yi (g:=gb265) (o:=.cells #[.string a1_0,.string a1_1,.bool false] 37 (0,0)) (by (with_reducible repeat first|apply ze|apply zf|apply zg);exact BK265.out)) : gb265≠gb282));have NB282_265:=zh NB265_282.out.symm;replace BK265:=zh (cD BK265.out (by (with_reducible repeat first|apply ze|apply zf|apply zg);exact BK265.out) hb);clear hb hbox hg hH_;have hnb50:=NB282_264.out;have hnc50:=NB264_282.out;have hnb51:=NB282_265.out;have hnc51:=NB265_282.out;obtain ⟨hcz52_0,hcz52_1,hfz52_0,hfz52_1⟩:=cB2 BK282.out;have hnb53:=NB265_264.out;have hnc53:=NB264_265.out;obtain ⟨hcz54_0,hcz54_1,hcz54_2,hfz54_0,hfz54_1,hfz54_2⟩:=cB3 BK265.out;have p286 : 0≤(0 : Int):=(by omega);have q286 : 0<(((rd_T67 y277 x30_1).f1).length : Int):=zy (by first|(with_reducible assumption)|assumption);obtain ⟨ad286,e286,hx286_0,hx286_1⟩:=at_T51 HR281_1.out 0 p286 q286;cases e286;have qi286 : (0<((rd_T67 y277 x30_1).f1).length)=True:=eq_true (by omega);(try rw [show ((0 : Int)).toNat=0 from rfl] at hx286_0);(try rw [show 0 * 2=0 from rfl] at hx286_0);(try rw [Addr.add_zero'] at hx286_0);(try rw [show ((0 : Int)).toNat=0 from rfl] at hx286_1);(try rw [show 0 * 2=0 from rfl] at hx286_1);(try rw [Addr.add_zero'] at hx286_1);have hn286_0 : ad286.block≠gb282:=yc (Nat.lt_of_lt_of_le (by have:=zl _ _ hx286_0;first|rwa [zF] at this|exact this) GW282.out);have hn286_1 : ad286.block≠gb282:=yc (Nat.lt_of_lt_of_le (by have:=zl _ _ hx286_0;first|rwa [zF] at this|exact this) GW282.out);replace hx286_0:=(HB.out.cell (zl w _ hx286_0)).trans hx286_0;replace hx286_1:=(HB.out.cell (zl w _ hx286_1)).trans hx286_1;replace hx286_0:=(zR (p:=⟨gb282,0,none⟩) (by first|(rw [zF];exact hn286_0)|(show (Addr.add _ _).block≠_;rw [zF];exact hn286_0)|exact hn286_0) (.int .i64 ((rd_T67 y277 x30_1).f0))).trans hx286_0;replace hx286_1:=(zR (p:=⟨gb282,0,none⟩) (by first|(rw [zF];exact hn286_0)|(show (Addr.add _ _).block≠_;rw [zF];exact hn286_0)|exact hn286_0) (.int .i64 ((rd_T67 y277 x30_1).f0))).trans hx286_1;replace hx286_0:=(zR (p:=⟨gb282,1,none⟩) (by first|(rw [zF];exact hn286_1)|(show (Addr.add _ _).block≠_;rw [zF];exact hn286_1)|exact hn286_1) (.slice (some ad286) ((rd_T67 y277 x30_1).f1).length c281_1)).trans hx286_0;replace hx286_1:=(zR (p:=⟨gb282,1,none⟩) (by first|(rw [zF];exact hn286_1)|(show (Addr.add _ _).block≠_;rw [zF];exact hn286_1)|exact hn286_1) (.slice (some ad286) ((rd_T67 y277 x30_1).f1).length c281_1)).trans hx286_1;(try have hy286_0:=fun (n_ : Nat) => (show ((((w49.drewN n_).setCell ⟨gb282,0,none⟩ (.int .i64 ((rd_T67 y277 x30_1).f0))).setCell ⟨gb282,1,none⟩ (.slice (some ad286) ((rd_T67 y277 x30_1).f1).length c281_1))).cell? _=some _ from hx286_0));(try have hy286_1:=fun (n_ : Nat) => (show ((((w49.drewN n_).setCell ⟨gb282,0,none⟩ (.int .i64 ((rd_T67 y277 x30_1).f0))).setCell ⟨gb282,1,none⟩ (.slice (some ad286) ((rd_T67 y277 x30_1).f1).length c281_1))).cell? _=some _ from hx286_1));clear hn286_0 hn286_1;replace p286:=eq_true p286;replace q286:=eq_true q286));try go_wp2_with (first|((with_reducible refine zK (N:=11) rfl ?_);refine zI ?hg (N:=11) ?hd (cs:=#[.int .i64 0,.slice none 0 0]) (t:=67) ?hr ?_;(case hd|hg => rfl);(case hr => go_simp <;> rfl);intro gb282 hg w49 hbox hb;replace HO_7:=zh (yg (by (with_reducible repeat (first|apply zm|apply zn|apply zo));exact HO_7.out) hb);replace HO_9:=zh (yg (by (with_reducible repeat (first|apply zm|apply zn|apply zo));exact HO_9.out) hb);have BK282:=zh (hbox);have hH_:=cH (by repeat (with_reducible first|exact HB.out|apply za|apply zb|apply zc|refine zd ?_ GE264.out|refine zd ?_ GE265.out)) hb hg;have GW282:=zh hH_.1;have GE282:=GW282;replace HB:=zh hH_.2;have NB264_282:=zh ((by rw [hg];exact yc (yi (g:=gb264) (o:=.cells #[.slice A0_0 l0_0.length c0_0,.int .i64 a0_1] 35 (0,0)) (by (with_reducible repeat first|apply ze|apply zf|apply zg);exact BK264.out)) : gb264≠gb282));have NB282_264:=zh NB264_282.out.symm;replace BK264:=zh (cD BK264.out (by (with_reducible repeat first|apply ze|apply zf|apply zg);exact BK264.out) hb);have NB265_282:=zh ((by rw [hg];exact yc (yi (g:=gb265) (o:=.cells #[.string a1_0,.string a1_1,.bool false] 37 (0,0)) (by (with_reducible repeat first|apply ze|apply zf|apply zg);exact BK265.out)) : gb265≠gb282));have NB282_265:=zh NB265_282.out.symm;replace BK265:=zh (cD BK265.out (by (with_reducible repeat first|apply ze|apply zf|apply zg);exact BK265.out) hb);clear hb hbox hg hH_;have hnb50:=NB282_264.out;have hnc50:=NB264_282.out;have hnb51:=NB282_265.out;have hnc51:=NB265_282.out;obtain ⟨hcz52_0,hcz52_1,hfz52_0,hfz52_1⟩:=cB2 BK282.out;have hnb53:=NB265_264.out;have hnc53:=NB264_265.out;obtain ⟨hcz54_0,hcz54_1,hcz54_2,hfz54_0,hfz54_1,hfz54_2⟩:=cB3 BK265.out;have p286 : 0≤(0 : Int):=(by omega);have q286 : 0<(((rd_T67 y277 x30_1).f1).length : Int):=zy (by first|(with_reducible assumption)|assumption);obtain ⟨ad286,e286,hx286_0,hx286_1⟩:=at_T51 HR281_1.out 0 p286 q286;cases e286;have qi286 : (0<((rd_T67 y277 x30_1).f1).length)=True:=eq_true (by omega);(try rw [show ((0 : Int)).toNat=0 from rfl] at hx286_0);(try rw [show 0 * 2=0 from rfl] at hx286_0);(try rw [Addr.add_zero'] at hx286_0);(try rw [show ((0 : Int)).toNat=0 from rfl] at hx286_1);(try rw [show 0 * 2=0 from rfl] at hx286_1);(try rw [Addr.add_zero'] at hx286_1);have hn286_0 : ad286.block≠gb282:=yc (Nat.lt_of_lt_of_le (by have:=zl _ _ hx286_0;first|rwa [zF] at this|exact this) GW282.out);have hn286_1 : ad286.block≠gb282:=yc (Nat.lt_of_lt_of_le (by have:=zl _ _ hx286_0;first|rwa [zF] at this|exact this) GW282.out);replace hx286_0:=(HB.out.cell (zl w _ hx286_0)).trans hx286_0;replace hx286_1:=(HB.out.cell (zl w _ hx286_1)).trans hx286_1;replace hx286_0:=(zR (p:=⟨gb282,0,none⟩) (by first|(rw [zF];exact hn286_0)|(show (Addr.add _ _).block≠_;rw [zF];exact hn286_0)|exact hn286_0) (.int .i64 ((rd_T67 y277 x30_1).f0))).trans hx286_0;replace hx286_1:=(zR (p:=⟨gb282,0,none⟩) (by first|(rw [zF];exact hn286_0)|(show (Addr.add _ _).block≠_;rw [zF];exact hn286_0)|exact hn286_0) (.int .i64 ((rd_T67 y277 x30_1).f0))).trans hx286_1;replace hx286_0:=(zR (p:=⟨gb282,1,none⟩) (by first|(rw [zF];exact hn286_1)|(show (Addr.add _ _).block≠_;rw [zF];exact hn286_1)|exact hn286_1) (.slice (some ad286) ((rd_T67 y277 x30_1).f1).length c281_1)).trans hx286_0;replace hx286_1:=(zR (p:=⟨gb282,1,none⟩) (by first|(rw [zF];exact hn286_1)|(show (Addr.add _ _).block≠_;rw [zF];exact hn286_1)|exact hn286_1) (.slice (some ad286) ((rd_T67 y277 x30_1).f1).length c281_1)).trans hx286_1;(try have hy286_0:=fun (n_ : Nat) => (show ((((w49.drewN n_).setCell ⟨gb282,0,none⟩ (.int .i64 ((rd_T67 y277 x30_1).f0))).setCell ⟨gb282,1,none⟩ (.slice (some ad286) ((rd_T67 y277 x30_1).f1).length c281_1))).cell? _=some _ from hx286_0));(try have hy286_1:=fun (n_ : Nat) => (show ((((w49.drewN n_).setCell ⟨gb282,0,none⟩ (.int .i64 ((rd_T67 y277 x30_1).f0))).setCell ⟨gb282,1,none⟩ (.slice (some ad286) ((rd_T67 y277 x30_1).f1).length c281_1))).cell? _=some _ from hx286_1));clear hn286_0 hn286_1;replace p286:=eq_true p286;replace q286:=eq_true q286)))
           go_ret3
           exact ⟨_,_,by first|rfl|(simp [yt,yu] <;> rfl)|(simp [*,yt,yu] <;> rfl),by (with_reducible repeat (first|apply zm|apply zn|apply zo));exact zM (zE (p:=⟨gb282,1,none⟩) (zE (p:=⟨gb282,0,none⟩) (yf HO_7.out BK282.out (by decide)) (fun _ hk => hk.2) (.int .i64 ((rd_T67 y277 x30_1).f0))) (fun _ hk => hk.2) (.slice (some ad286) ((rd_T67 y277 x30_1).f1).length c281_1)) (fun _ hk => trivial),by (with_reducible repeat (first|apply zm|apply zn|apply zo));exact zM (zE (p:=⟨gb282,1,none⟩) (zE (p:=⟨gb282,0,none⟩) (yf HO_9.out BK282.out (by decide)) (fun _ hk => hk.2) (.int .i64 ((rd_T67 y277 x30_1).f0))) (fun _ hk => hk.2) (.slice (some ad286) ((rd_T67 y277 x30_1).f1).length c281_1)) (fun _ hk => trivial),by repeat (with_reducible first|exact HB.out|apply za|apply zb|apply zc|refine zd ?_ GE264.out|refine zd ?_ GE265.out|refine zd ?_ GE282.out)⟩
          rw [if_neg c39] at H;exact absurd H (by simp)
         rw [if_neg c29] at H;have c29b0 : decide (0<x30_1)=false:=decide_eq_false c29;clear c29
         by_cases c55 : x9_1.length<17592186044416
         ·
          rw [if_pos c55] at H
          have LMc55:=zh c55;clear c55;obtain ⟨y290,hy290⟩ : ∃ y_ : List Int,y_=(x9_1 ++ [(rd_T67 y277 x30_1).f0]):=⟨_,rfl⟩;replace H : (F9.l0 k1 t270 y290 y277 (y277.length : Int) (wrap64 (x30_1 + 1)) a1_0 a1_1 a1_2)=some (r1,r2,r3):=by first|(rw [hy290];with_reducible exact H)|(have H2_:=(Option.bind_some _ _).symm.trans H;rw [hy290];with_reducible exact H2_)|(have H2_:=(Option.bind_some _ _).symm.trans H;with_reducible exact H2_)|with_reducible exact H|(rw [hy290];exact H)|exact H
          have Ny290:=zh hy290;clear hy290;have H':=zh H;clear H;have p281 : 0≤(x30_1 : Int):=zy (by first|(with_reducible assumption)|assumption);have q281 : x30_1<(y277.length : Int):=zy (by first|(with_reducible assumption)|assumption);obtain ⟨ad281,A281_1,c281_1,e281,hx281_0,hx281_1,hl281_1,hi281_1⟩:=at_T67 HR280.out x30_1 p281 q281
          cases e281
          replace hx281_0:=(HB.out.cell (zl w _ hx281_0)).trans hx281_0;replace hx281_1:=(HB.out.cell (zl w _ hx281_1)).trans hx281_1;have HR281_1:=zh hi281_1;have HC281_1:=zh hl281_1;clear hi281_1 hl281_1;replace p281:=eq_true p281;replace q281:=eq_true q281
          go_wp2_with (first|((with_reducible refine zK (N:=11) rfl ?_);refine zI ?hg (N:=11) ?hd (cs:=#[.int .i64 0,.slice none 0 0]) (t:=67) ?hr ?_;(case hd|hg => rfl);(case hr => go_simp <;> rfl);intro gb282 hg w56 hbox hb;replace HO_7:=zh (yg (by (with_reducible repeat (first|apply zm|apply zn|apply zo));exact HO_7.out) hb);replace HO_9:=zh (yg (by (with_reducible repeat (first|apply zm|apply zn|apply zo));exact HO_9.out) hb);have BK282:=zh (hbox);have hH_:=cH (by repeat (with_reducible first|exact HB.out|apply za|apply zb|apply zc|refine zd ?_ GE264.out|refine zd ?_ GE265.out)) hb hg;have GW282:=zh hH_.1;have GE282:=GW282;replace HB:=zh hH_.2;have NB264_282:=zh ((by rw [hg];exact yc (yi (g:=gb264) (o:=.cells #[.slice A0_0 l0_0.length c0_0,.int .i64 a0_1] 35 (0,0)) (by (with_reducible repeat first|apply ze|apply zf|apply zg);exact BK264.out)) : gb264≠gb282));have NB282_264:=zh NB264_282.out.symm;replace BK264:=zh (cD BK264.out (by (with_reducible repeat first|apply ze|apply zf|apply zg);exact BK264.out) hb);have NB265_282:=zh ((by rw [hg];exact yc (yi (g:=gb265) (o:=.cells #[.string a1_0,.string a1_1,.bool a1_2] 37 (0,0)) (by (with_reducible repeat first|apply ze|apply zf|apply zg);exact BK265.out)) : gb265≠gb282));have NB282_265:=zh NB265_282.out.symm;replace BK265:=zh (cD BK265.out (by (with_reducible repeat first|apply ze|apply zf|apply zg);exact BK265.out) hb);clear hb hbox hg hH_;have hnb57:=NB282_264.out;have hnc57:=NB264_282.out;have hnb58:=NB282_265.out;have hnc58:=NB265_282.out;obtain ⟨hcz59_0,hcz59_1,hfz59_0,hfz59_1⟩:=cB2 BK282.out)|((with_reducible refine yA (b:=.append) (xs:=#[.tmp 52,.tmp 55]) rfl ?_);at_builtin;refine Kd.R_append (Kd.int .i64) (w0:=w) w.heap.size rfl (.tmp 52) (.tmp 55) 30 3 (.int .i64 0) 8 rfl Try.underlying30 info3 rfl (by decide) (by omega) u9 x9_1 ((rd_T67 y277 x30_1).f0) [.int .i64 ((rd_T67 y277 x30_1).f0)] (fun _ => True) (fun _ => False) rfl (by go_simp <;> rfl) ?aP (fun _ hk => hk.elim) ?aF ?aO ?aB ?aS ?aL ?_;(case aP => exact rfl);(case aB => exact (by repeat (with_reducible first|exact HB.out|apply za|apply zb|apply zc|refine zd ?_ GE264.out|refine zd ?_ GE265.out|refine zd ?_ GE282.out)));(case aF => exact (fun _ _ => trivial));(case aO => exact (by (with_reducible repeat (first|apply zm|apply zn|apply zo));exact zM (zE (p:=⟨gb282,1,none⟩) (zE (p:=⟨gb282,0,none⟩) (yf HO_9.out BK282.out (by decide)) (fun _ hk => hk.2) (.int .i64 ((rd_T67 y277 x30_1).f0))) (fun _ hk => hk.2) (.slice A281_1 ((rd_T67 y277 x30_1).f1).length c281_1)) (fun _ hk => trivial)));(case aS => exact (zB (by repeat (with_reducible first|exact HB.out|apply za|apply zb|apply zc|refine zd ?_ GE264.out|refine zd ?_ GE265.out|refine zd ?_ GE282.out))));(case aL => have:=LMc55.out;omega);intro v291 w60 ho hb hg hat;rw [← Ny290.out] at ho;replace HO_7:=zh (Kd.R_over' (by (with_reducible repeat (first|apply zm|apply zn|apply zo));exact (zM (zE (p:=⟨gb282,1,none⟩) (zE (p:=⟨gb282,0,none⟩) (yf HO_7.out BK282.out (by decide)) (fun _ hk => hk.2) (.int .i64 ((rd_T67 y277 x30_1).f0))) (fun _ hk => hk.2) (.slice A281_1 ((rd_T67 y277 x30_1).f1).length c281_1)) (fun _ h_ => h_.1))) (Kd.R_typed (by (with_reducible repeat (first|apply zm|apply zn|apply zo));exact (zM (zE (p:=⟨gb282,1,none⟩) (zE (p:=⟨gb282,0,none⟩) (yf HO_9.out BK282.out (by decide)) (fun _ hk => hk.2) (.int .i64 ((rd_T67 y277 x30_1).f0))) (fun _ hk => hk.2) (.slice A281_1 ((rd_T67 y277 x30_1).f1).length c281_1)) (fun _ h_ => h_.1)))) (by decide) hg);replace BK264:=zh (yv (g:=gb264) (o:=.cells #[.slice A0_0 l0_0.length c0_0,.int .i64 a0_1] 35 (0,0)) (by (with_reducible repeat first|apply ze|apply zf|apply zg);refine cS2 ?_ NB264_282.out;(with_reducible repeat first|apply ze|apply zf|apply zg);exact BK264.out) hg (Kd.R_ne HO_9.out BK264.out (by decide)));replace BK265:=zh (yv (g:=gb265) (o:=.cells #[.string a1_0,.string a1_1,.bool a1_2] 37 (0,0)) (by (with_reducible repeat first|apply ze|apply zf|apply zg);refine cS2 ?_ NB265_282.out;(with_reducible repeat first|apply ze|apply zf|apply zg);exact BK265.out) hg (Kd.R_ne HO_9.out BK265.out (by decide)));replace BK282:=zh (yv (g:=gb282) (o:=.cells #[.int .i64 ((rd_T67 y277 x30_1).f0),.slice A281_1 ((rd_T67 y277 x30_1).f1).length c281_1] 67 (0,0)) (by (with_reducible repeat first|apply ze|apply zf|apply zg);refine zL (cs:=#[.int .i64 ((rd_T67 y277 x30_1).f0),.slice none 0 0]) ?_ 1 _ rfl;(with_reducible repeat first|apply ze|apply zf|apply zg);refine zL (cs:=#[.int .i64 0,.slice none 0 0]) ?_ 0 _ rfl;(with_reducible repeat first|apply ze|apply zf|apply zg);exact BK282.out) hg (Kd.R_ne HO_9.out BK282.out (by decide)));replace HB:=zh (hb);have HO292:=zh (ho);clear HO_9 ho hb hg hat))
          repeat (go_quiet (first|((with_reducible refine zK (N:=11) rfl ?_);refine zI ?hg (N:=11) ?hd (cs:=#[.int .i64 0,.slice none 0 0]) (t:=67) ?hr ?_;(case hd|hg => rfl);(case hr => go_simp <;> rfl);intro gb282 hg w56 hbox hb;replace HO_7:=zh (yg (by (with_reducible repeat (first|apply zm|apply zn|apply zo));exact HO_7.out) hb);replace HO_9:=zh (yg (by (with_reducible repeat (first|apply zm|apply zn|apply zo));exact HO_9.out) hb);have BK282:=zh (hbox);have hH_:=cH (by repeat (with_reducible first|exact HB.out|apply za|apply zb|apply zc|refine zd ?_ GE264.out|refine zd ?_ GE265.out)) hb hg;have GW282:=zh hH_.1;have GE282:=GW282;replace HB:=zh hH_.2;have NB264_282:=zh ((by rw [hg];exact yc (yi (g:=gb264) (o:=.cells #[.slice A0_0 l0_0.length c0_0,.int .i64 a0_1] 35 (0,0)) (by (with_reducible repeat first|apply ze|apply zf|apply zg);exact BK264.out)) : gb264≠gb282));have NB282_264:=zh NB264_282.out.symm;replace BK264:=zh (cD BK264.out (by (with_reducible repeat first|apply ze|apply zf|apply zg);exact BK264.out) hb);have NB265_282:=zh ((by rw [hg];exact yc (yi (g:=gb265) (o:=.cells #[.string a1_0,.string a1_1,.bool a1_2] 37 (0,0)) (by (with_reducible repeat first|apply ze|apply zf|apply zg);exact BK265.out)) : gb265≠gb282));have NB282_265:=zh NB265_282.out.symm;replace BK265:=zh (cD BK265.out (by (with_reducible repeat first|apply ze|apply zf|apply zg);exact BK265.out) hb);clear hb hbox hg hH_;have hnb57:=NB282_264.out;have hnc57:=NB264_282.out;have hnb58:=NB282_265.out;have hnc58:=NB265_282.out;obtain ⟨hcz59_0,hcz59_1,hfz59_0,hfz59_1⟩:=cB2 BK282.out)|((with_reducible refine yA (b:=.append) (xs:=#[.tmp 52,.tmp 55]) rfl ?_);at_builtin;refine Kd.R_append (Kd.int .i64) (w0:=w) w.heap.size rfl (.tmp 52) (.tmp 55) 30 3 (.int .i64 0) 8 rfl Try.underlying30 info3 rfl (by decide) (by omega) u9 x9_1 ((rd_T67 y277 x30_1).f0) [.int .i64 ((rd_T67 y277 x30_1).f0)] (fun _ => True) (fun _ => False) rfl (by go_simp <;> rfl) ?aP (fun _ hk => hk.elim) ?aF ?aO ?aB ?aS ?aL ?_;(case aP => exact rfl);(case aB => exact (by repeat (with_reducible first|exact HB.out|apply za|apply zb|apply zc|refine zd ?_ GE264.out|refine zd ?_ GE265.out|refine zd ?_ GE282.out)));(case aF => exact (fun _ _ => trivial));(case aO => exact (by (with_reducible repeat (first|apply zm|apply zn|apply zo));exact zM (zE (p:=⟨gb282,1,none⟩) (zE (p:=⟨gb282,0,none⟩) (yf HO_9.out BK282.out (by decide)) (fun _ hk => hk.2) (.int .i64 ((rd_T67 y277 x30_1).f0))) (fun _ hk => hk.2) (.slice A281_1 ((rd_T67 y277 x30_1).f1).length c281_1)) (fun _ hk => trivial)));(case aS => exact (zB (by repeat (with_reducible first|exact HB.out|apply za|apply zb|apply zc|refine zd ?_ GE264.out|refine zd ?_ GE265.out|refine zd ?_ GE282.out))));(case aL => have:=LMc55.out;omega);intro v291 w60 ho hb hg hat;rw [← Ny290.out] at ho;replace HO_7:=zh (Kd.R_over' (by (with_reducible repeat (first|apply zm|apply zn|apply zo));exact (zM (zE (p:=⟨gb282,1,none⟩) (zE (p:=⟨gb282,0,none⟩) (yf HO_7.out BK282.out (by decide)) (fun _ hk => hk.2) (.int .i64 ((rd_T67 y277 x30_1).f0))) (fun _ hk => hk.2) (.slice A281_1 ((rd_T67 y277 x30_1).f1).length c281_1)) (fun _ h_ => h_.1))) (Kd.R_typed (by (with_reducible repeat (first|apply zm|apply zn|apply zo));exact (zM (zE (p:=⟨gb282,1,none⟩) (zE (p:=⟨gb282,0,none⟩) (yf HO_9.out BK282.out (by decide)) (fun _ hk => hk.2) (.int .i64 ((rd_T67 y277 x30_1).f0))) (fun _ hk => hk.2) (.slice A281_1 ((rd_T67 y277 x30_1).f1).length c281_1)) (fun _ h_ => h_.1)))) (by decide) hg);replace BK264:=zh (yv (g:=gb264) (o:=.cells #[.slice A0_0 l0_0.length c0_0,.int .i64 a0_1] 35 (0,0)) (by (with_reducible repeat first|apply ze|apply zf|apply zg);refine cS2 ?_ NB264_282.out;(with_reducible repeat first|apply ze|apply zf|apply zg);exact BK264.out) hg (Kd.R_ne HO_9.out BK264.out (by decide)));replace BK265:=zh (yv (g:=gb265) (o:=.cells #[.string a1_0,.string a1_1,.bool a1_2] 37 (0,0)) (by (with_reducible repeat first|apply ze|apply zf|apply zg);refine cS2 ?_ NB265_282.out;(with_reducible repeat first|apply ze|apply zf|apply zg);exact BK265.out) hg (Kd.R_ne HO_9.out BK265.out (by decide)));replace BK282:=zh (yv (g:=gb282) (o:=.cells #[.int .i64 ((rd_T67 y277 x30_1).f0),.slice A281_1 ((rd_T67 y277 x30_1).f1).length c281_1] 67 (0,0)) (by (with_reducible repeat first|apply ze|apply zf|apply zg);refine zL (cs:=#[.int .i64 ((rd_T67 y277 x30_1).f0),.slice none 0 0]) ?_ 1 _ rfl;(with_reducible repeat first|apply ze|apply zf|apply zg);refine zL (cs:=#[.int .i64 0,.slice none 0 0]) ?_ 0 _ rfl;(with_reducible repeat first|apply ze|apply zf|apply zg);exact BK282.out) hg (Kd.R_ne HO_9.out BK282.out (by decide)));replace HB:=zh (hb);have HO292:=zh (ho);clear HO_9 ho hb hg hat));try go_wp2_with (first|((with_reducible refine zK (N:=11) rfl ?_);refine zI ?hg (N:=11) ?hd (cs:=#[.int .i64 0,.slice none 0 0]) (t:=67) ?hr ?_;(case hd|hg => rfl);(case hr => go_simp <;> rfl);intro gb282 hg w56 hbox hb;replace HO_7:=zh (yg (by (with_reducible repeat (first|apply zm|apply zn|apply zo));exact HO_7.out) hb);replace HO_9:=zh (yg (by (with_reducible repeat (first|apply zm|apply zn|apply zo));exact HO_9.out) hb);have BK282:=zh (hbox);have hH_:=cH (by repeat (with_reducible first|exact HB.out|apply za|apply zb|apply zc|refine zd ?_ GE264.out|refine zd ?_ GE265.out)) hb hg;have GW282:=zh hH_.1;have GE282:=GW282;replace HB:=zh hH_.2;have NB264_282:=zh ((by rw [hg];exact yc (yi (g:=gb264) (o:=.cells #[.slice A0_0 l0_0.length c0_0,.int .i64 a0_1] 35 (0,0)) (by (with_reducible repeat first|apply ze|apply zf|apply zg);exact BK264.out)) : gb264≠gb282));have NB282_264:=zh NB264_282.out.symm;replace BK264:=zh (cD BK264.out (by (with_reducible repeat first|apply ze|apply zf|apply zg);exact BK264.out) hb);have NB265_282:=zh ((by rw [hg];exact yc (yi (g:=gb265) (o:=.cells #[.string a1_0,.string a1_1,.bool a1_2] 37 (0,0)) (by (with_reducible repeat first|apply ze|apply zf|apply zg);exact BK265.out)) : gb265≠gb282));have NB282_265:=zh NB265_282.out.symm;replace BK265:=zh (cD BK265.out (by (with_reducible repeat first|apply ze|apply zf|apply zg);exact BK265.out) hb);clear hb hbox hg hH_;have hnb57:=NB282_264.out;have hnc57:=NB264_282.out;have hnb58:=NB282_265.out;have hnc58:=NB265_282.out;obtain ⟨hcz59_0,hcz59_1,hfz59_0,hfz59_1⟩:=cB2 BK282.out)|((with_reducible refine yA (b:=.append) (xs:=#[.tmp 52,.tmp 55]) rfl ?_);at_builtin;refine Kd.R_append (Kd.int .i64) (w0:=w) w.heap.size rfl (.tmp 52) (.tmp 55) 30 3 (.int .i64 0) 8 rfl Try.underlying30 info3 rfl (by decide) (by omega) u9 x9_1 ((rd_T67 y277 x30_1).f0) [.int .i64 ((rd_T67 y277 x30_1).f0)] (fun _ => True) (fun _ => False) rfl (by go_simp <;> rfl) ?aP (fun _ hk => hk.elim) ?aF ?aO ?aB ?aS ?aL ?_;(case aP => exact rfl);(case aB => exact (by repeat (with_reducible first|exact HB.out|apply za|apply zb|apply zc|refine zd ?_ GE264.out|refine zd ?_ GE265.out|refine zd ?_ GE282.out)));(case aF => exact (fun _ _ => trivial));(case aO => exact (by (with_reducible repeat (first|apply zm|apply zn|apply zo));exact zM (zE (p:=⟨gb282,1,none⟩) (zE (p:=⟨gb282,0,none⟩) (yf HO_9.out BK282.out (by decide)) (fun _ hk => hk.2) (.int .i64 ((rd_T67 y277 x30_1).f0))) (fun _ hk => hk.2) (.slice A281_1 ((rd_T67 y277 x30_1).f1).length c281_1)) (fun _ hk => trivial)));(case aS => exact (zB (by repeat (with_reducible first|exact HB.out|apply za|apply zb|apply zc|refine zd ?_ GE264.out|refine zd ?_ GE265.out|refine zd ?_ GE282.out))));(case aL => have:=LMc55.out;omega);intro v291 w60 ho hb hg hat;rw [← Ny290.out] at ho;replace HO_7:=zh (Kd.R_over' (by (with_reducible repeat (first|apply zm|apply zn|apply zo));exact (zM (zE (p:=⟨gb282,1,none⟩) (zE (p:=⟨gb282,0,none⟩) (yf HO_7.out BK282.out (by decide)) (fun _ hk => hk.2) (.int .i64 ((rd_T67 y277 x30_1).f0))) (fun _ hk => hk.2) (.slice A281_1 ((rd_T67 y277 x30_1).f1).length c281_1)) (fun _ h_ => h_.1))) (Kd.R_typed (by (with_reducible repeat (first|apply zm|apply zn|apply zo));exact (zM (zE (p:=⟨gb282,1,none⟩) (zE (p:=⟨gb282,0,none⟩) (yf HO_9.out BK282.out (by decide)) (fun _ hk => hk.2) (.int .i64 ((rd_T67 y277 x30_1).f0))) (fun _ hk => hk.2) (.slice A281_1 ((rd_T67 y277 x30_1).f1).length c281_1)) (fun _ h_ => h_.1)))) (by decide) hg);replace BK264:=zh (yv (g:=gb264) (o:=.cells #[.slice A0_0 l0_0.length c0_0,.int .i64 a0_1] 35 (0,0)) (by (with_reducible repeat first|apply ze|apply zf|apply zg);refine cS2 ?_ NB264_282.out;(with_reducible repeat first|apply ze|apply zf|apply zg);exact BK264.out) hg (Kd.R_ne HO_9.out BK264.out (by decide)));replace BK265:=zh (yv (g:=gb265) (o:=.cells #[.string a1_0,.string a1_1,.bool a1_2] 37 (0,0)) (by (with_reducible repeat first|apply ze|apply zf|apply zg);refine cS2 ?_ NB265_282.out;(with_reducible repeat first|apply ze|apply zf|apply zg);exact BK265.out) hg (Kd.R_ne HO_9.out BK265.out (by decide)));replace BK282:=zh (yv (g:=gb282) (o:=.cells #[.int .i64 ((rd_T67 y277 x30_1).f0),.slice A281_1 ((rd_T67 y277 x30_1).f1).length c281_1] 67 (0,0)) (by (with_reducible repeat first|apply ze|apply zf|apply zg);refine zL (cs:=#[.int .i64 ((rd_T67 y277 x30_1).f0),.slice none 0 0]) ?_ 1 _ rfl;(with_reducible repeat first|apply ze|apply zf|apply zg);refine zL (cs:=#[.int .i64 0,.slice none 0 0]) ?_ 0 _ rfl;(with_reducible repeat first|apply ze|apply zf|apply zg);exact BK282.out) hg (Kd.R_ne HO_9.out BK282.out (by decide)));replace HB:=zh (hb);have HO292:=zh (ho);clear HO_9 ho hb hg hat)))
          go_roundg k1
          case measure => have:=HK1.out;omega
          case rel => exact ⟨(y290),(wrap64 (x30_1 + 1)),(by first|rfl|(simp;done)|(simp [*];done)),H',⟨by have:=HK1.out;omega⟩,⟨by (with_reducible repeat (first|apply zm|apply zn|apply zo));exact HO_7.out⟩,⟨by (with_reducible repeat (first|apply zm|apply zn|apply zo));exact HO292.out⟩,⟨by (with_reducible repeat first|apply ze|apply zf|apply zg);exact BK264.out⟩,⟨by (with_reducible repeat first|apply ze|apply zf|apply zg);exact BK265.out⟩,⟨by repeat (with_reducible first|exact HB.out|apply za|apply zb|apply zc|refine zd ?_ GE264.out|refine zd ?_ GE265.out|refine zd ?_ GE282.out)⟩⟩
         rw [if_neg c55] at H;exact absurd H (by simp)
        rw [if_neg c28] at H;exact absurd H (by simp)
       rw [if_neg c27] at H;exact absurd H (by simp)
      rw [if_neg c26] at H;have c26b0 : decide (x30_1<(y277.length : Int))=false:=decide_eq_false c26;clear c26;simp only [Option.some.injEq,Prod.mk.injEq] at H;obtain ⟨rfl,rfl,rfl⟩:=H
      go_wp2
      repeat (go_quiet (fail);try go_wp2)
      go_ret3
      exact ⟨_,_,by first|rfl|(simp [yt,yu] <;> rfl)|(simp [*,yt,yu] <;> rfl),by (with_reducible repeat (first|apply zm|apply zn|apply zo));exact HO_7.out,by (with_reducible repeat (first|apply zm|apply zn|apply zo));exact HO_9.out,by repeat (with_reducible first|exact HB.out|apply za|apply zb|apply zc|refine zd ?_ GE264.out|refine zd ?_ GE265.out)⟩
   rw [if_neg c9] at H;exact absurd H (by simp)
  rw [if_neg c8] at H;exact absurd H (by simp)
 replace c4:=yb.mpr c4;subst c4;have H1 : (some (([] : List (S51)),([] : List Int),1))=some (r1,r2,r3):=by rw [if_neg (show ¬ (false=true) by decide)] at H;exact H
 clear H;have H:=H1;clear H1;simp only [Option.some.injEq,Prod.mk.injEq] at H;obtain ⟨rfl,rfl,rfl⟩:=H
 go_enter Try.func11,Try.ntmps11
 go_wp2_with (first|((with_reducible refine zK (N:=2) rfl ?_);refine zI ?hg (N:=2) ?hd (cs:=#[.slice A0_0 l0_0.length c0_0,.int .i64 a0_1]) (t:=35) ?hr ?_;(case hd|hg => rfl);(case hr => go_simp <;> rfl);intro gb264 hg w61 hbox hb;have BK264:=zh (hbox);have hH_:=cH (by repeat (with_reducible first|exact HB.out|apply za|apply zb|apply zc)) hb hg;have GW264:=zh hH_.1;have GE264:=GW264;replace HB:=zh hH_.2;clear hb hbox hg hH_)|((with_reducible refine zK (N:=3) rfl ?_);refine zI ?hg (N:=3) ?hd (cs:=#[.string a1_0,.string a1_1,.bool a1_2]) (t:=37) ?hr ?_;(case hd|hg => rfl);(case hr => go_simp <;> rfl);intro gb265 hg w62 hbox hb;have BK265:=zh (hbox);have hH_:=cH (by repeat (with_reducible first|exact HB.out|apply za|apply zb|apply zc|refine zd ?_ GE264.out)) hb hg;have GW265:=zh hH_.1;have GE265:=GW265;replace HB:=zh hH_.2;have NB264_265:=zh ((by rw [hg];exact yc (yi (g:=gb264) (o:=.cells #[.slice A0_0 l0_0.length c0_0,.int .i64 a0_1] 35 (0,0)) (by (with_reducible repeat first|apply ze|apply zf|apply zg);exact BK264.out)) : gb264≠gb265));have NB265_264:=zh NB264_265.out.symm;replace BK264:=zh (cD BK264.out (by (with_reducible repeat first|apply ze|apply zf|apply zg);exact BK264.out) hb);clear hb hbox hg hH_;have hnb63:=NB264_265.out;have hnc63:=NB265_264.out;obtain ⟨hcz64_0,hcz64_1,hfz64_0,hfz64_1⟩:=cB2 BK264.out)|(go_at_call 31;(with_reducible refine (F4.calls k  _ _ l0_0 a0_1 false _ ?side1 ?side2 A3.out).mono ?_);(case side1 => repeat (first|exact (Kd.C_below HR0_0.out HB.out)|(with_reducible refine Kd.C_alloc ?_ _)|(with_reducible refine Kd.C_drewN ?_ _)|(with_reducible refine Kd.C_drew ?_)));(case side2 => exact HC0_0.out);rintro e w65 ⟨rfl,hb⟩;replace BK264:=zh (cD BK264.out (by (with_reducible repeat first|apply ze|apply zf|apply zg);exact BK264.out) hb);replace BK265:=zh (cD BK265.out (by (with_reducible repeat first|apply ze|apply zf|apply zg);exact BK265.out) hb);replace HB:=zh (zC (by repeat (with_reducible first|exact HB.out|apply za|apply zb|apply zc|refine zd ?_ GE264.out|refine zd ?_ GE265.out)) hb);(try clear hb);(try clear hb2);(try clear hk);(try clear hi)))
 repeat (go_quiet (first|((with_reducible refine zK (N:=2) rfl ?_);refine zI ?hg (N:=2) ?hd (cs:=#[.slice A0_0 l0_0.length c0_0,.int .i64 a0_1]) (t:=35) ?hr ?_;(case hd|hg => rfl);(case hr => go_simp <;> rfl);intro gb264 hg w61 hbox hb;have BK264:=zh (hbox);have hH_:=cH (by repeat (with_reducible first|exact HB.out|apply za|apply zb|apply zc)) hb hg;have GW264:=zh hH_.1;have GE264:=GW264;replace HB:=zh hH_.2;clear hb hbox hg hH_)|((with_reducible refine zK (N:=3) rfl ?_);refine zI ?hg (N:=3) ?hd (cs:=#[.string a1_0,.string a1_1,.bool a1_2]) (t:=37) ?hr ?_;(case hd|hg => rfl);(case hr => go_simp <;> rfl);intro gb265 hg w62 hbox hb;have BK265:=zh (hbox);have hH_:=cH (by repeat (with_reducible first|exact HB.out|apply za|apply zb|apply zc|refine zd ?_ GE264.out)) hb hg;have GW265:=zh hH_.1;have GE265:=GW265;replace HB:=zh hH_.2;have NB264_265:=zh ((by rw [hg];exact yc (yi (g:=gb264) (o:=.cells #[.slice A0_0 l0_0.length c0_0,.int .i64 a0_1] 35 (0,0)) (by (with_reducible repeat first|apply ze|apply zf|apply zg);exact BK264.out)) : gb264≠gb265));have NB265_264:=zh NB264_265.out.symm;replace BK264:=zh (cD BK264.out (by (with_reducible repeat first|apply ze|apply zf|apply zg);exact BK264.out) hb);clear hb hbox hg hH_;have hnb63:=NB264_265.out;have hnc63:=NB265_264.out;obtain ⟨hcz64_0,hcz64_1,hfz64_0,hfz64_1⟩:=cB2 BK264.out)|(go_at_call 31;(with_reducible refine (F4.calls k  _ _ l0_0 a0_1 false _ ?side1 ?side2 A3.out).mono ?_);(case side1 => repeat (first|exact (Kd.C_below HR0_0.out HB.out)|(with_reducible refine Kd.C_alloc ?_ _)|(with_reducible refine Kd.C_drewN ?_ _)|(with_reducible refine Kd.C_drew ?_)));(case side2 => exact HC0_0.out);rintro e w65 ⟨rfl,hb⟩;replace BK264:=zh (cD BK264.out (by (with_reducible repeat first|apply ze|apply zf|apply zg);exact BK264.out) hb);replace BK265:=zh (cD BK265.out (by (with_reducible repeat first|apply ze|apply zf|apply zg);exact BK265.out) hb);replace HB:=zh (zC (by repeat (with_reducible first|exact HB.out|apply za|apply zb|apply zc|refine zd ?_ GE264.out|refine zd ?_ GE265.out)) hb);(try clear hb);(try clear hb2);(try clear hk);(try clear hi)));try go_wp2_with (first|((with_reducible refine zK (N:=2) rfl ?_);refine zI ?hg (N:=2) ?hd (cs:=#[.slice A0_0 l0_0.length c0_0,.int .i64 a0_1]) (t:=35) ?hr ?_;(case hd|hg => rfl);(case hr => go_simp <;> rfl);intro gb264 hg w61 hbox hb;have BK264:=zh (hbox);have hH_:=cH (by repeat (with_reducible first|exact HB.out|apply za|apply zb|apply zc)) hb hg;have GW264:=zh hH_.1;have GE264:=GW264;replace HB:=zh hH_.2;clear hb hbox hg hH_)|((with_reducible refine zK (N:=3) rfl ?_);refine zI ?hg (N:=3) ?hd (cs:=#[.string a1_0,.string a1_1,.bool a1_2]) (t:=37) ?hr ?_;(case hd|hg => rfl);(case hr => go_simp <;> rfl);intro gb265 hg w62 hbox hb;have BK265:=zh (hbox);have hH_:=cH (by repeat (with_reducible first|exact HB.out|apply za|apply zb|apply zc|refine zd ?_ GE264.out)) hb hg;have GW265:=zh hH_.1;have GE265:=GW265;replace HB:=zh hH_.2;have NB264_265:=zh ((by rw [hg];exact yc (yi (g:=gb264) (o:=.cells #[.slice A0_0 l0_0.length c0_0,.int .i64 a0_1] 35 (0,0)) (by (with_reducible repeat first|apply ze|apply zf|apply zg);exact BK264.out)) : gb264≠gb265));have NB265_264:=zh NB264_265.out.symm;replace BK264:=zh (cD BK264.out (by (with_reducible repeat first|apply ze|apply zf|apply zg);exact BK264.out) hb);clear hb hbox hg hH_;have hnb63:=NB264_265.out;have hnc63:=NB265_264.out;obtain ⟨hcz64_0,hcz64_1,hfz64_0,hfz64_1⟩:=cB2 BK264.out)|(go_at_call 31;(with_reducible refine (F4.calls k  _ _ l0_0 a0_1 false _ ?side1 ?side2 A3.out).mono ?_);(case side1 => repeat (first|exact (Kd.C_below HR0_0.out HB.out)|(with_reducible refine Kd.C_alloc ?_ _)|(with_reducible refine Kd.C_drewN ?_ _)|(with_reducible refine Kd.C_drew ?_)));(case side2 => exact HC0_0.out);rintro e w65 ⟨rfl,hb⟩;replace BK264:=zh (cD BK264.out (by (with_reducible repeat first|apply ze|apply zf|apply zg);exact BK264.out) hb);replace BK265:=zh (cD BK265.out (by (with_reducible repeat first|apply ze|apply zf|apply zg);exact BK265.out) hb);replace HB:=zh (zC (by repeat (with_reducible first|exact HB.out|apply za|apply zb|apply zc|refine zd ?_ GE264.out|refine zd ?_ GE265.out)) hb);(try clear hb);(try clear hb2);(try clear hk);(try clear hi))))
 go_ret3
 exact ⟨_,_,by first|rfl|(simp [yt,yu] <;> rfl)|(simp [*,yt,yu] <;> rfl),by first|exact Kd.R_nil _ _ _ _ _|exact Kd.N_nil _ _ _ _ _|exact Kd.V_nil _ _ _ _ _|exact Kd.Q_nil _ _ _ _ _|exact Kd.S_nil _ _ _ _ _,by first|exact Kd.R_nil _ _ _ _ _|exact Kd.N_nil _ _ _ _ _|exact Kd.V_nil _ _ _ _ _|exact Kd.Q_nil _ _ _ _ _|exact Kd.S_nil _ _ _ _ _,by repeat (with_reducible first|exact HB.out|apply za|apply zb|apply zc|refine zd ?_ GE264.out|refine zd ?_ GE265.out)⟩


def F5.f (a0_0 : ByteArray) (a0_1 : Int) (a1_0 : ByteArray) (a1_1 : Int) : Option (Bool):=if a0_0.toList=a1_0.toList then (if a0_1=a1_1 then (some true) else (some false)) else (some false)
set_option maxHeartbeats 8000000 in
set_option maxRecDepth 100000 in
theorem F5.calls (a0_0 : ByteArray) (a0_1 : Int) (a1_0 : ByteArray) (a1_1 : Int) (r : Bool) (w : World) (h : F5.f a0_0 a0_1 a1_0 a1_1=some r) :
  Calls Try.prog 37 #[.agg #[.string a0_0,.int .i64 a0_1],.agg #[.string a1_0,.int .i64 a1_1]] w fun e w' => e = .returned (.bool r)∧Below w.heap.size w w':=by
 have hu51:=Try.underlying51;have HB:=zh (Below.refl w.heap.size w);have H : (if a0_0.toList=a1_0.toList then (if a0_1=a1_1 then (some true) else (some false)) else (some false))=some r:=h;clear h
 by_cases c3 : a0_0.toList=a1_0.toList
 ·
  rw [if_pos c3] at H
  have c3b0 : (a0_0.toList == a1_0.toList)=true:=ya.mpr c3;have c3b1 : (a0_0.toList != a1_0.toList)=false:=zX.mpr c3;clear c3
  by_cases c4 : a0_1=a1_1
  ·
   rw [if_pos c4] at H
   have c4b0 : (a0_1 == a1_1)=true:=ya.mpr c4;have c4b1 : (a0_1 != a1_1)=false:=zX.mpr c4;clear c4;obtain rfl:=zU H
   go_enter Try.func37,Try.ntmps37
   go_wp2_with (first|((with_reducible refine zK (N:=2) rfl ?_);refine zI ?hg (N:=2) ?hd (cs:=#[.string a0_0,.int .i64 a0_1]) (t:=51) ?hr ?_;(case hd|hg => rfl);(case hr => go_simp <;> rfl);intro gb293 hg w5 hbox hb;have BK293:=zh (hbox);have hH_:=cH (by repeat (with_reducible first|exact HB.out|apply za|apply zb|apply zc)) hb hg;have GW293:=zh hH_.1;have GE293:=GW293;replace HB:=zh hH_.2;clear hb hbox hg hH_)|((with_reducible refine zK (N:=3) rfl ?_);refine zI ?hg (N:=3) ?hd (cs:=#[.string a1_0,.int .i64 a1_1]) (t:=51) ?hr ?_;(case hd|hg => rfl);(case hr => go_simp <;> rfl);intro gb294 hg w6 hbox hb;have BK294:=zh (hbox);have hH_:=cH (by repeat (with_reducible first|exact HB.out|apply za|apply zb|apply zc|refine zd ?_ GE293.out)) hb hg;have GW294:=zh hH_.1;have GE294:=GW294;replace HB:=zh hH_.2;have NB293_294:=zh ((by rw [hg];exact yc (yi (g:=gb293) (o:=.cells #[.string a0_0,.int .i64 a0_1] 51 (0,0)) (by (with_reducible repeat first|apply ze|apply zf|apply zg);exact BK293.out)) : gb293≠gb294));have NB294_293:=zh NB293_294.out.symm;replace BK293:=zh (cD BK293.out (by (with_reducible repeat first|apply ze|apply zf|apply zg);exact BK293.out) hb);clear hb hbox hg hH_;have hnb7:=NB293_294.out;have hnc7:=NB294_293.out;obtain ⟨hcz8_0,hcz8_1,hfz8_0,hfz8_1⟩:=cB2 BK293.out;obtain ⟨hcz9_0,hcz9_1,hfz9_0,hfz9_1⟩:=cB2 BK294.out))
   go_ret
   exact ⟨by first|rfl|(simp [yt,yu] <;> rfl)|(simp [*,yt,yu] <;> rfl),by repeat (with_reducible first|exact HB.out|apply za|apply zb|apply zc|refine zd ?_ GE293.out|refine zd ?_ GE294.out)⟩
  rw [if_neg c4] at H;have c4b0 : (a0_1 == a1_1)=false:=zY.mpr c4;have c4b1 : (a0_1 != a1_1)=true:=zZ.mpr c4;obtain rfl:=zU H
  go_enter Try.func37,Try.ntmps37
  go_wp2_with (first|((with_reducible refine zK (N:=2) rfl ?_);refine zI ?hg (N:=2) ?hd (cs:=#[.string a0_0,.int .i64 a0_1]) (t:=51) ?hr ?_;(case hd|hg => rfl);(case hr => go_simp <;> rfl);intro gb293 hg w10 hbox hb;have BK293:=zh (hbox);have hH_:=cH (by repeat (with_reducible first|exact HB.out|apply za|apply zb|apply zc)) hb hg;have GW293:=zh hH_.1;have GE293:=GW293;replace HB:=zh hH_.2;clear hb hbox hg hH_)|((with_reducible refine zK (N:=3) rfl ?_);refine zI ?hg (N:=3) ?hd (cs:=#[.string a1_0,.int .i64 a1_1]) (t:=51) ?hr ?_;(case hd|hg => rfl);(case hr => go_simp <;> rfl);intro gb294 hg w11 hbox hb;have BK294:=zh (hbox);have hH_:=cH (by repeat (with_reducible first|exact HB.out|apply za|apply zb|apply zc|refine zd ?_ GE293.out)) hb hg;have GW294:=zh hH_.1;have GE294:=GW294;replace HB:=zh hH_.2;have NB293_294:=zh ((by rw [hg];exact yc (yi (g:=gb293) (o:=.cells #[.string a0_0,.int .i64 a0_1] 51 (0,0)) (by (with_reducible repeat first|apply ze|apply zf|apply zg);exact BK293.out)) : gb293≠gb294));have NB294_293:=zh NB293_294.out.symm;replace BK293:=zh (cD BK293.out (by (with_reducible repeat first|apply ze|apply zf|apply zg);exact BK293.out) hb);clear hb hbox hg hH_;have hnb12:=NB293_294.out;have hnc12:=NB294_293.out;obtain ⟨hcz13_0,hcz13_1,hfz13_0,hfz13_1⟩:=cB2 BK293.out;obtain ⟨hcz14_0,hcz14_1,hfz14_0,hfz14_1⟩:=cB2 BK294.out))
  go_ret
  exact ⟨by first|rfl|(simp [yt,yu] <;> rfl)|(simp [*,yt,yu] <;> rfl),by repeat (with_reducible first|exact HB.out|apply za|apply zb|apply zc|refine zd ?_ GE293.out|refine zd ?_ GE294.out)⟩
 rw [if_neg c3] at H;have c3b0 : (a0_0.toList == a1_0.toList)=false:=zY.mpr c3;have c3b1 : (a0_0.toList != a1_0.toList)=true:=zZ.mpr c3;obtain rfl:=zU H
 go_enter Try.func37,Try.ntmps37
 go_wp2_with (first|((with_reducible refine zK (N:=2) rfl ?_);refine zI ?hg (N:=2) ?hd (cs:=#[.string a0_0,.int .i64 a0_1]) (t:=51) ?hr ?_;(case hd|hg => rfl);(case hr => go_simp <;> rfl);intro gb293 hg w15 hbox hb;have BK293:=zh (hbox);have hH_:=cH (by repeat (with_reducible first|exact HB.out|apply za|apply zb|apply zc)) hb hg;have GW293:=zh hH_.1;have GE293:=GW293;replace HB:=zh hH_.2;clear hb hbox hg hH_)|((with_reducible refine zK (N:=3) rfl ?_);refine zI ?hg (N:=3) ?hd (cs:=#[.string a1_0,.int .i64 a1_1]) (t:=51) ?hr ?_;(case hd|hg => rfl);(case hr => go_simp <;> rfl);intro gb294 hg w16 hbox hb;have BK294:=zh (hbox);have hH_:=cH (by repeat (with_reducible first|exact HB.out|apply za|apply zb|apply zc|refine zd ?_ GE293.out)) hb hg;have GW294:=zh hH_.1;have GE294:=GW294;replace HB:=zh hH_.2;have NB293_294:=zh ((by rw [hg];exact yc (yi (g:=gb293) (o:=.cells #[.string a0_0,.int .i64 a0_1] 51 (0,0)) (by (with_reducible repeat first|apply ze|apply zf|apply zg);exact BK293.out)) : gb293≠gb294));have NB294_293:=zh NB293_294.out.symm;replace BK293:=zh (cD BK293.out (by (with_reducible repeat first|apply ze|apply zf|apply zg);exact BK293.out) hb);clear hb hbox hg hH_;have hnb17:=NB293_294.out;have hnc17:=NB294_293.out;obtain ⟨hcz18_0,hcz18_1,hfz18_0,hfz18_1⟩:=cB2 BK293.out;obtain ⟨hcz19_0,hcz19_1,hfz19_0,hfz19_1⟩:=cB2 BK294.out))
 go_ret
 exact ⟨by first|rfl|(simp [yt,yu] <;> rfl)|(simp [*,yt,yu] <;> rfl),by repeat (with_reducible first|exact HB.out|apply za|apply zb|apply zc|refine zd ?_ GE293.out|refine zd ?_ GE294.out)⟩


def F8.l0 : Nat→List (S51)→List (S51)→Int→Option (Bool)
 | 0,_,_,_ => none
 | k + 1,x0,x1,x5 => if x5<(x0.length : Int) then (if 0≤x5 then (if x5<(x1.length : Int) then ((F5.f ((rd_T51 x0 x5).f0) ((rd_T51 x0 x5).f1) ((rd_T51 x1 x5).f0) ((rd_T51 x1 x5).f1)).bind fun t297 => (if t297=true then (F8.l0 k x0 x1 (wrap64 (x5 + 1))) else (some false))) else (none)) else (none)) else (some true)
def F8.f (k : Nat) (l0 : List (S51)) (l1 : List (S51)) : Option (Bool):=if (l0.length : Int)=(l1.length : Int) then (F8.l0 k l0 l1 0) else (some false)
theorem F8.mono_l : ∀ k,(∀ y0 y1 y2,LeO (F8.l0 k y0 y1 y2) (F8.l0 (k + 1) y0 y1 y2))
 | 0 => fun _ _ _ r h => by simp [F8.l0] at h
 | k + 1 => by
  have ih0:=F8.mono_l k;intro y0 y1 y2;unfold F8.l0
  repeat' first|(with_reducible first|exact ih0 _ _ _|exact zQ _|exact zN _|refine zP ?_ ?_|refine zO ?_ (fun _ => ?_))|refine zP ?_ ?_|refine zO ?_ (fun _ => ?_)
theorem F8.mono : ∀ a0 a1 k,LeO (F8.f k a0 a1) (F8.f (k + 1) a0 a1):=by
 intro a0 a1 k;have ih0:=F8.mono_l k;unfold F8.f
 repeat' first|(with_reducible first|exact ih0 _ _ _|exact zQ _|exact zN _|refine zP ?_ ?_|refine zO ?_ (fun _ => ?_))|refine zP ?_ ?_|refine zO ?_ (fun _ => ?_)
def F8.T6 : Bool×List (List Nat×List Nat):=(true,[([],[]),([],[]),([0,1],[0,1]),([2],[2]),([],[]),([],[]),([4,5],[4,5]),([6],[6]),([3,7],[3,7]),([8],[8])])
def F8.B6 : List Nat:=[0,0,3,7,0,0,48,112,255,511]
theorem F8.tab6 : rtab .any (opsOf Try.f12 6)=F8.T6:=by kernel_rfl
theorem F8.bits6 : waitsOk F8.T6.2 F8.B6=true:=by kernel_rfl
set_option maxHeartbeats 8000000 in
set_option maxRecDepth 100000 in
theorem F8.calls (k : Nat) (A0 : Option Addr) (c0 : Nat) (l0 : List (S51)) (A1 : Option Addr) (c1 : Nat) (l1 : List (S51)) (r : Bool) (w : World) (hr0 : Kd.C k51 w A0 l0.length l0) (hc0 : l0.length≤c0) (hr1 : Kd.C k51 w A1 l1.length l1) (hc1 : l1.length≤c1) (h : F8.f k l0 l1=some r) :
  Calls Try.prog 12 #[.slice A0 l0.length c0,.slice A1 l1.length c1] w fun e w' => e = .returned (.bool r)∧Below w.heap.size w w':=by
 have hu51:=Try.underlying51;have HR0:=zh hr0;have HC0:=zh hc0;clear hr0 hc0;have HR1:=zh hr1;have HC1:=zh hc1;clear hr1 hc1;have HB:=zh (Below.refl w.heap.size w);have H : (if (l0.length : Int)=(l1.length : Int) then (F8.l0 k l0 l1 0) else (some false))=some r:=h;clear h
 by_cases c3 : (l0.length : Int)=(l1.length : Int)
 ·
  rw [if_pos c3] at H
  have c3b0 : ((l0.length : Int) == (l1.length : Int))=true:=ya.mpr c3;have c3b1 : ((l0.length : Int) != (l1.length : Int))=false:=zX.mpr c3;have c3b2 : (l0.length == l1.length)=true:=by first|simpa using c3|(simp at c3 ⊢;omega)
  clear c3;have H':=zh H;clear H
  go_enter Try.func12,Try.ntmps12
  go_wp2
  go_loopg [5] k (fun kq v5 w' => ∃ (x5_1 : Int),v5 = .int .i64 x5_1∧Aside0 (F8.l0 kq l0 l1 x5_1=some r)∧Aside0 (kq≤k)∧Aside0 (Below w.heap.size w w'))
  case atStart => exact ⟨(0),(by first|rfl|(simp;done)|(simp [*];done)),H',⟨ye _⟩,⟨by repeat (with_reducible first|exact HB.out|apply za|apply zb|apply zc)⟩⟩
  case round =>
   clear H'
   try clear c1
   try clear p2
   try clear c3 c3b0 c3b1 c3b2
   obtain ⟨x5_1,rfl,HA,HK1,HB⟩:=hrel
   cases gk with
   | zero => exact absurd HA.out (by simp [F8.l0])
   | succ k1 =>
    have H:=HA.out;clear HA;simp only [F8.l0] at H
    by_cases c4 : x5_1<(l0.length : Int)
    ·
     rw [if_pos c4] at H
     have c4b0 : decide (x5_1<(l0.length : Int))=true:=decide_eq_true c4;clear c4
     by_cases c5 : 0≤x5_1
     ·
      rw [if_pos c5] at H
      have c5b0 : decide (0≤x5_1)=true:=decide_eq_true c5;clear c5
      by_cases c6 : x5_1<(l1.length : Int)
      ·
       rw [if_pos c6] at H
       have c6b0 : decide (x5_1<(l1.length : Int))=true:=decide_eq_true c6;clear c6;replace H:=zT.mp H;obtain ⟨t297,A70,H⟩:=H;replace H : (if t297=true then (F8.l0 k1 l0 l1 (wrap64 (x5_1 + 1))) else (some false))=some r:=H;have A7:=zh A70;clear A70
       by_cases c8 : t297=true
       ·
        subst c8
        have H1 : (F8.l0 k1 l0 l1 (wrap64 (x5_1 + 1)))=some r:=by rw [if_pos rfl] at H;exact H
        clear H;have H:=H1;clear H1;have H':=zh H;clear H
        try go_wp2
        replace HB:=zh (zc HB.out);have p295 : 0≤(x5_1 : Int):=zy (by first|(with_reducible assumption)|assumption);have q295 : x5_1<(l0.length : Int):=zy (by first|(with_reducible assumption)|assumption);obtain ⟨ad295,e295,hx295_0,hx295_1⟩:=at_T51 HR0.out x5_1 p295 q295;have hw295_1:=hx295_1;have hw295_0:=hx295_0
        cases e295
        replace hx295_0:=(HB.out.cell (zl w _ hx295_0)).trans hx295_0;replace hx295_1:=(HB.out.cell (zl w _ hx295_1)).trans hx295_1;replace p295:=eq_true p295;replace q295:=eq_true q295;have p296 : 0≤(x5_1 : Int):=zy (by first|(with_reducible assumption)|assumption);have q296 : x5_1<(l1.length : Int):=zy (by first|(with_reducible assumption)|assumption);obtain ⟨ad296,e296,hx296_0,hx296_1⟩:=at_T51 HR1.out x5_1 p296 q296;have hw296_1:=hx296_1;have hw296_0:=hx296_0
        cases e296
        replace hx296_0:=(HB.out.cell (zl w _ hx296_0)).trans hx296_0;replace hx296_1:=(HB.out.cell (zl w _ hx296_1)).trans hx296_1;replace p296:=eq_true p296;replace q296:=eq_true q296;refine start_ (n:=10) (S:=fun w' => w'.cell? (ad295.add ((x5_1).toNat * 2))=some (.string ((rd_T51 l0 x5_1).f0))∧w'.cell? ⟨(ad295.add ((x5_1).toNat * 2)).block,(ad295.add ((x5_1).toNat * 2)).off + 1,none⟩=some (.int .i64 ((rd_T51 l0 x5_1).f1))∧w'.cell? (ad296.add ((x5_1).toNat * 2))=some (.string ((rd_T51 l1 x5_1).f0))∧w'.cell? ⟨(ad296.add ((x5_1).toNat * 2)).block,(ad296.add ((x5_1).toNat * 2)).off + 1,none⟩=some (.int .i64 ((rd_T51 l1 x5_1).f1))) (ds:=[]) (bm_ 0 10) (by kernel_rfl) rfl rfl ⟨((HB.out.cell (zl w _ hw295_0)).trans hw295_0),((HB.out.cell (zl w _ hw295_1)).trans hw295_1),((HB.out.cell (zl w _ hw296_0)).trans hw296_0),((HB.out.cell (zl w _ hw296_1)).trans hw296_1)⟩ (fun hHeld => ?_);refine with_tabW F8.tab6 F8.bits6 (fun HT_ HW_ => ?_);generalize wr.drew=w9 at HB hx295_0 hx295_1 hx296_0 hx296_1 hHeld ⊢;refine pure_ (i:=0) (N:=some 17) (v:=?_) (a':=?_) (bm_ 1 10) rfl rfl (any_of HT_.out (by kernel_rfl)) (fun _ _ _ h => h) (Or.inl ⟨by rfl,?_⟩) ?_ ?_;rotate_left
        ·
         intro w'
         go_simp
         with_reducible rfl
        rotate_left
        ·
         simp only [Act.put,zi,zj,zk,zG,zH]
         rfl
        refine pure_ (i:=1) (N:=some 18) (v:=?_) (a':=?_) (bm_ 2 10) rfl rfl (any_of HT_.out (by kernel_rfl)) (fun _ _ _ h => h) (Or.inl ⟨by rfl,?_⟩) ?_ ?_;rotate_left
        ·
         intro w'
         go_simp
         with_reducible rfl
        rotate_left
        ·
         simp only [Act.put,zi,zj,zk,zG,zH]
         rfl
        refine pure_ (i:=2) (N:=some 19) (v:=?_) (a':=?_) (bm_ 3 10) rfl rfl (any_of HT_.out (by kernel_rfl)) (fun _ _ _ h => h) (Or.inl ⟨by rfl,?_⟩) ?_ ?_;rotate_left
        ·
         intro w'
         go_simp
         with_reducible rfl
        rotate_left
        ·
         simp only [Act.put,zi,zj,zk,zG,zH]
         rfl
        refine pure_ (i:=4) (N:=some 21) (v:=?_) (a':=?_) #[true,true,true,false,true,false,false,false,false,false] rfl rfl (any_of HT_.out (by kernel_rfl)) (fun _ _ _ h => h) (Or.inl ⟨by rfl,?_⟩) ?_ ?_;rotate_left
        ·
         intro w'
         go_simp
         with_reducible rfl
        rotate_left
        ·
         simp only [Act.put,zi,zj,zk,zG,zH]
         rfl
        refine pure_ (i:=5) (N:=some 22) (v:=?_) (a':=?_) #[true,true,true,false,true,true,false,false,false,false] rfl rfl (any_of HT_.out (by kernel_rfl)) (fun _ _ _ h => h) (Or.inl ⟨by rfl,?_⟩) ?_ ?_;rotate_left
        ·
         intro w'
         go_simp
         with_reducible rfl
        rotate_left
        ·
         simp only [Act.put,zi,zj,zk,zG,zH]
         rfl
        refine pure_ (i:=6) (N:=some 23) (v:=?_) (a':=?_) #[true,true,true,false,true,true,true,false,false,false] rfl rfl (any_of HT_.out (by kernel_rfl)) (fun _ _ _ h => h) (Or.inl ⟨by rfl,?_⟩) ?_ ?_;rotate_left
        ·
         intro w'
         go_simp
         with_reducible rfl
        rotate_left
        ·
         simp only [Act.put,zi,zj,zk,zG,zH]
         rfl
        refine take_ (i:=3) (N:=some 20) (v:=?_) (a':=?_) (bm_ 7 10) rfl rfl (yo HT_.out HW_.out (by kernel_rfl)) (fun _ _ _ h => h) (Or.inl ⟨by rfl,?_⟩) hHeld ?_ ?_;rotate_left
        ·
         rintro w' ⟨s0,s1,s2,s3⟩
         go_simp
         with_reducible rfl
        rotate_left
        ·
         simp only [Act.put,zi,zj,zk,zG,zH]
         rfl
        refine take_ (i:=7) (N:=some 24) (v:=?_) (a':=?_) (bm_ 8 10) rfl rfl (yo HT_.out HW_.out (by kernel_rfl)) (fun _ _ _ h => h) (Or.inl ⟨by rfl,?_⟩) hHeld ?_ ?_;rotate_left
        ·
         rintro w' ⟨s0,s1,s2,s3⟩
         go_simp
         with_reducible rfl
        rotate_left
        ·
         simp only [Act.put,zi,zj,zk,zG,zH]
         rfl
        refine one_ (i:=8) (N:=some 25) (bm_ 9 10) rfl rfl (one_of HT_.out (by kernel_rfl)) (by decide) (fun K hK => ?_);refine goes_ Try.func37 (by kernel_rfl) rfl #[.agg #[.string ((rd_T51 l0 x5_1).f0),.int .i64 ((rd_T51 l0 x5_1).f1)],.agg #[.string ((rd_T51 l1 x5_1).f0),.int .i64 ((rd_T51 l1 x5_1).f1)]] (by rfl) rfl rfl (by (try simp only [zt,zu,zv]);first|done|rfl|(simp only [zw,zx];rfl)|(simp only [yr,ys,zV,zW];rfl)) ?_
        with_reducible refine (F5.calls  ((rd_T51 l0 x5_1).f0) ((rd_T51 l0 x5_1).f1) ((rd_T51 l1 x5_1).f0) ((rd_T51 l1 x5_1).f1) true _ A7.out).mono ?_
        rintro e w10 ⟨rfl,hb⟩;refine ⟨_,rfl,?_⟩;replace HB:=zh (zC (by repeat (with_reducible first|exact HB.out|apply za|apply zb|apply zc)) hb);(try clear hb);(try clear hb2);(try clear hk);(try clear hi);refine hK.out _ _ ⟨((HB.out.cell (zl w _ hw295_0)).trans hw295_0),((HB.out.cell (zl w _ hw295_1)).trans hw295_1),((HB.out.cell (zl w _ hw296_0)).trans hw296_0),((HB.out.cell (zl w _ hw296_1)).trans hw296_1)⟩ (fun hHeld => ?_);clear hK K;refine norm_ (a':=?_) ?_ ?_;rotate_left
        ·
         show Act.put _ (some 25) _=_
         simp only [Act.put,zi,zj,zk,zG,zH]
         rfl
        refine pure_ (i:=9) (N:=some 26) (v:=?_) (a':=?_) (bm_ 10 10) rfl rfl (any_of HT_.out (by kernel_rfl)) (fun _ _ _ h => h) (Or.inl ⟨by rfl,?_⟩) ?_ ?_;rotate_left
        ·
         intro w'
         go_simp
         with_reducible rfl
        rotate_left
        ·
         simp only [Act.put,zi,zj,zk,zG,zH]
         rfl
        refine done_ (done_of HT_.out (by kernel_rfl)) ?_
        try go_wp2
        go_roundg k1
        case measure => have:=HK1.out;omega
        case rel => exact ⟨(wrap64 (x5_1 + 1)),(by first|rfl|(simp;done)|(simp [*];done)),H',⟨by have:=HK1.out;omega⟩,⟨by repeat (with_reducible first|exact HB.out|apply za|apply zb|apply zc)⟩⟩
       replace c8:=yb.mpr c8;subst c8;have H1 : (some false)=some r:=by rw [if_neg (show ¬ (false=true) by decide)] at H;exact H
       clear H;have H:=H1;clear H1;obtain rfl:=zU H
       try go_wp2
       replace HB:=zh (zc HB.out);have p295 : 0≤(x5_1 : Int):=zy (by first|(with_reducible assumption)|assumption);have q295 : x5_1<(l0.length : Int):=zy (by first|(with_reducible assumption)|assumption);obtain ⟨ad295,e295,hx295_0,hx295_1⟩:=at_T51 HR0.out x5_1 p295 q295;have hw295_1:=hx295_1;have hw295_0:=hx295_0
       cases e295
       replace hx295_0:=(HB.out.cell (zl w _ hx295_0)).trans hx295_0;replace hx295_1:=(HB.out.cell (zl w _ hx295_1)).trans hx295_1;replace p295:=eq_true p295;replace q295:=eq_true q295;have p296 : 0≤(x5_1 : Int):=zy (by first|(with_reducible assumption)|assumption);have q296 : x5_1<(l1.length : Int):=zy (by first|(with_reducible assumption)|assumption);obtain ⟨ad296,e296,hx296_0,hx296_1⟩:=at_T51 HR1.out x5_1 p296 q296;have hw296_1:=hx296_1;have hw296_0:=hx296_0
       cases e296
       replace hx296_0:=(HB.out.cell (zl w _ hx296_0)).trans hx296_0;replace hx296_1:=(HB.out.cell (zl w _ hx296_1)).trans hx296_1;replace p296:=eq_true p296;replace q296:=eq_true q296;refine start_ (n:=10) (S:=fun w' => w'.cell? (ad295.add ((x5_1).toNat * 2))=some (.string ((rd_T51 l0 x5_1).f0))∧w'.cell? ⟨(ad295.add ((x5_1).toNat * 2)).block,(ad295.add ((x5_1).toNat * 2)).off + 1,none⟩=some (.int .i64 ((rd_T51 l0 x5_1).f1))∧w'.cell? (ad296.add ((x5_1).toNat * 2))=some (.string ((rd_T51 l1 x5_1).f0))∧w'.cell? ⟨(ad296.add ((x5_1).toNat * 2)).block,(ad296.add ((x5_1).toNat * 2)).off + 1,none⟩=some (.int .i64 ((rd_T51 l1 x5_1).f1))) (ds:=[]) (bm_ 0 10) (by kernel_rfl) rfl rfl ⟨((HB.out.cell (zl w _ hw295_0)).trans hw295_0),((HB.out.cell (zl w _ hw295_1)).trans hw295_1),((HB.out.cell (zl w _ hw296_0)).trans hw296_0),((HB.out.cell (zl w _ hw296_1)).trans hw296_1)⟩ (fun hHeld => ?_);refine with_tabW F8.tab6 F8.bits6 (fun HT_ HW_ => ?_);generalize wr.drew=w11 at HB hx295_0 hx295_1 hx296_0 hx296_1 hHeld ⊢;refine pure_ (i:=0) (N:=some 17) (v:=?_) (a':=?_) (bm_ 1 10) rfl rfl (any_of HT_.out (by kernel_rfl)) (fun _ _ _ h => h) (Or.inl ⟨by rfl,?_⟩) ?_ ?_;rotate_left
       ·
        intro w'
        go_simp
        with_reducible rfl
       rotate_left
       ·
        simp only [Act.put,zi,zj,zk,zG,zH]
        rfl
       refine pure_ (i:=1) (N:=some 18) (v:=?_) (a':=?_) (bm_ 2 10) rfl rfl (any_of HT_.out (by kernel_rfl)) (fun _ _ _ h => h) (Or.inl ⟨by rfl,?_⟩) ?_ ?_;rotate_left
       ·
        intro w'
        go_simp
        with_reducible rfl
       rotate_left
       ·
        simp only [Act.put,zi,zj,zk,zG,zH]
        rfl
       refine pure_ (i:=2) (N:=some 19) (v:=?_) (a':=?_) (bm_ 3 10) rfl rfl (any_of HT_.out (by kernel_rfl)) (fun _ _ _ h => h) (Or.inl ⟨by rfl,?_⟩) ?_ ?_;rotate_left
       ·
        intro w'
        go_simp
        with_reducible rfl
       rotate_left
       ·
        simp only [Act.put,zi,zj,zk,zG,zH]
        rfl
       refine pure_ (i:=4) (N:=some 21) (v:=?_) (a':=?_) #[true,true,true,false,true,false,false,false,false,false] rfl rfl (any_of HT_.out (by kernel_rfl)) (fun _ _ _ h => h) (Or.inl ⟨by rfl,?_⟩) ?_ ?_;rotate_left
       ·
        intro w'
        go_simp
        with_reducible rfl
       rotate_left
       ·
        simp only [Act.put,zi,zj,zk,zG,zH]
        rfl
       refine pure_ (i:=5) (N:=some 22) (v:=?_) (a':=?_) #[true,true,true,false,true,true,false,false,false,false] rfl rfl (any_of HT_.out (by kernel_rfl)) (fun _ _ _ h => h) (Or.inl ⟨by rfl,?_⟩) ?_ ?_;rotate_left
       ·
        intro w'
        go_simp
        with_reducible rfl
       rotate_left
       ·
        simp only [Act.put,zi,zj,zk,zG,zH]
        rfl
       refine pure_ (i:=6) (N:=some 23) (v:=?_) (a':=?_) #[true,true,true,false,true,true,true,false,false,false] rfl rfl (any_of HT_.out (by kernel_rfl)) (fun _ _ _ h => h) (Or.inl ⟨by rfl,?_⟩) ?_ ?_;rotate_left
       ·
        intro w'
        go_simp
        with_reducible rfl
       rotate_left
       ·
        simp only [Act.put,zi,zj,zk,zG,zH]
        rfl
       refine take_ (i:=3) (N:=some 20) (v:=?_) (a':=?_) (bm_ 7 10) rfl rfl (yo HT_.out HW_.out (by kernel_rfl)) (fun _ _ _ h => h) (Or.inl ⟨by rfl,?_⟩) hHeld ?_ ?_;rotate_left
       ·
        rintro w' ⟨s0,s1,s2,s3⟩
        go_simp
        with_reducible rfl
       rotate_left
       ·
        simp only [Act.put,zi,zj,zk,zG,zH]
        rfl
       refine take_ (i:=7) (N:=some 24) (v:=?_) (a':=?_) (bm_ 8 10) rfl rfl (yo HT_.out HW_.out (by kernel_rfl)) (fun _ _ _ h => h) (Or.inl ⟨by rfl,?_⟩) hHeld ?_ ?_;rotate_left
       ·
        rintro w' ⟨s0,s1,s2,s3⟩
        go_simp
        with_reducible rfl
       rotate_left
       ·
        simp only [Act.put,zi,zj,zk,zG,zH]
        rfl
       refine one_ (i:=8) (N:=some 25) (bm_ 9 10) rfl rfl (one_of HT_.out (by kernel_rfl)) (by decide) (fun K hK => ?_);refine goes_ Try.func37 (by kernel_rfl) rfl #[.agg #[.string ((rd_T51 l0 x5_1).f0),.int .i64 ((rd_T51 l0 x5_1).f1)],.agg #[.string ((rd_T51 l1 x5_1).f0),.int .i64 ((rd_T51 l1 x5_1).f1)]] (by rfl) rfl rfl (by (try simp only [zt,zu,zv]);first|done|rfl|(simp only [zw,zx];rfl)|(simp only [yr,ys,zV,zW];rfl)) ?_
       with_reducible refine (F5.calls  ((rd_T51 l0 x5_1).f0) ((rd_T51 l0 x5_1).f1) ((rd_T51 l1 x5_1).f0) ((rd_T51 l1 x5_1).f1) false _ A7.out).mono ?_
       rintro e w12 ⟨rfl,hb⟩;refine ⟨_,rfl,?_⟩;replace HB:=zh (zC (by repeat (with_reducible first|exact HB.out|apply za|apply zb|apply zc)) hb);(try clear hb);(try clear hb2);(try clear hk);(try clear hi);refine hK.out _ _ ⟨((HB.out.cell (zl w _ hw295_0)).trans hw295_0),((HB.out.cell (zl w _ hw295_1)).trans hw295_1),((HB.out.cell (zl w _ hw296_0)).trans hw296_0),((HB.out.cell (zl w _ hw296_1)).trans hw296_1)⟩ (fun hHeld => ?_);clear hK K;refine norm_ (a':=?_) ?_ ?_;rotate_left
       ·
        show Act.put _ (some 25) _=_
        simp only [Act.put,zi,zj,zk,zG,zH]
        rfl
       refine pure_ (i:=9) (N:=some 26) (v:=?_) (a':=?_) (bm_ 10 10) rfl rfl (any_of HT_.out (by kernel_rfl)) (fun _ _ _ h => h) (Or.inl ⟨by rfl,?_⟩) ?_ ?_;rotate_left
       ·
        intro w'
        go_simp
        with_reducible rfl
       rotate_left
       ·
        simp only [Act.put,zi,zj,zk,zG,zH]
        rfl
       refine done_ (done_of HT_.out (by kernel_rfl)) ?_
       try go_wp2
       go_ret
       exact ⟨by first|rfl|(simp [yt,yu] <;> rfl)|(simp [*,yt,yu] <;> rfl),by repeat (with_reducible first|exact HB.out|apply za|apply zb|apply zc)⟩
      rw [if_neg c6] at H;exact absurd H (by simp)
     rw [if_neg c5] at H;exact absurd H (by simp)
    rw [if_neg c4] at H;have c4b0 : decide (x5_1<(l0.length : Int))=false:=decide_eq_false c4;clear c4;obtain rfl:=zU H
    go_wp2
    go_ret
    exact ⟨by first|rfl|(simp [yt,yu] <;> rfl)|(simp [*,yt,yu] <;> rfl),by repeat (with_reducible first|exact HB.out|apply za|apply zb|apply zc)⟩
 rw [if_neg c3] at H;have c3b0 : ((l0.length : Int) == (l1.length : Int))=false:=zY.mpr c3;have c3b1 : ((l0.length : Int) != (l1.length : Int))=true:=zZ.mpr c3;have c3b2 : (l0.length == l1.length)=false:=by first|simpa using c3|(simp at c3 ⊢;omega)
 obtain rfl:=zU H
 go_enter Try.func12,Try.ntmps12
 go_wp2
 go_ret
 exact ⟨by first|rfl|(simp [yt,yu] <;> rfl)|(simp [*,yt,yu] <;> rfl),by repeat (with_reducible first|exact HB.out|apply za|apply zb|apply zc)⟩


def Fa.l0 : Nat→List Int→List Int→Int→Option (Bool)
 | 0,_,_,_ => none
 | k + 1,x0,x1,x5 => if x5<(x0.length : Int) then (if 0≤x5 then (if x5<(x1.length : Int) then (if (rd x0 x5)=(rd x1 x5) then (Fa.l0 k x0 x1 (wrap64 (x5 + 1))) else (some false)) else (none)) else (none)) else (some true)
def Fa.f (k : Nat) (l0 : List Int) (l1 : List Int) : Option (Bool):=if (l0.length : Int)=(l1.length : Int) then (Fa.l0 k l0 l1 0) else (some false)
theorem Fa.mono_l : ∀ k,(∀ y0 y1 y2,LeO (Fa.l0 k y0 y1 y2) (Fa.l0 (k + 1) y0 y1 y2))
 | 0 => fun _ _ _ r h => by simp [Fa.l0] at h
 | k + 1 => by
  have ih0:=Fa.mono_l k;intro y0 y1 y2;unfold Fa.l0
  repeat' first|(with_reducible first|exact ih0 _ _ _|exact zQ _|exact zN _|refine zP ?_ ?_|refine zO ?_ (fun _ => ?_))|refine zP ?_ ?_|refine zO ?_ (fun _ => ?_)
theorem Fa.mono : ∀ a0 a1 k,LeO (Fa.f k a0 a1) (Fa.f (k + 1) a0 a1):=by
 intro a0 a1 k;have ih0:=Fa.mono_l k;unfold Fa.f
 repeat' first|(with_reducible first|exact ih0 _ _ _|exact zQ _|exact zN _|refine zP ?_ ?_|refine zO ?_ (fun _ => ?_))|refine zP ?_ ?_|refine zO ?_ (fun _ => ?_)
set_option maxHeartbeats 8000000 in
set_option maxRecDepth 100000 in
theorem Fa.calls (k : Nat) (A0 : Option Addr) (c0 : Nat) (l0 : List Int) (A1 : Option Addr) (c1 : Nat) (l1 : List Int) (r : Bool) (w : World) (hr0 : Kd.C (Kd.int .i64) w A0 l0.length l0) (hc0 : l0.length≤c0) (hr1 : Kd.C (Kd.int .i64) w A1 l1.length l1) (hc1 : l1.length≤c1) (h : Fa.f k l0 l1=some r) :
  Calls Try.prog 13 #[.slice A0 l0.length c0,.slice A1 l1.length c1] w fun e w' => e = .returned (.bool r)∧Drawn0 w w':=by
 have HR0:=zh hr0;have HC0:=zh hc0;clear hr0 hc0;have HR1:=zh hr1;have HC1:=zh hc1;clear hr1 hc1;have H : (if (l0.length : Int)=(l1.length : Int) then (Fa.l0 k l0 l1 0) else (some false))=some r:=h;clear h
 by_cases c3 : (l0.length : Int)=(l1.length : Int)
 ·
  rw [if_pos c3] at H
  have c3b0 : ((l0.length : Int) == (l1.length : Int))=true:=ya.mpr c3;have c3b1 : ((l0.length : Int) != (l1.length : Int))=false:=zX.mpr c3;have c3b2 : (l0.length == l1.length)=true:=by first|simpa using c3|(simp at c3 ⊢;omega)
  clear c3;have H':=zh H;clear H
  go_enter Try.func13,Try.ntmps13
  go_wp2
  repeat (go_quiet (fail);try go_wp2)
  go_loopg [5] k (fun kq v5 w' => ∃ (x5_1 : Int),v5 = .int .i64 x5_1∧Aside0 (Fa.l0 kq l0 l1 x5_1=some r)∧Aside0 (kq≤k)∧Drawn0 w w')
  case atStart => exact ⟨(0),(by first|rfl|(simp;done)|(simp [*];done)),H',⟨ye _⟩,by repeat (first|exact yp _|apply yq)⟩
  case round =>
   clear H'
   try clear c1
   try clear p2
   try clear c3 c3b0 c3b1 c3b2
   obtain ⟨x5_1,rfl,HA,HK1,⟨m1,rfl⟩⟩:=hrel
   cases gk with
   | zero => exact absurd HA.out (by simp [Fa.l0])
   | succ k1 =>
    have H:=HA.out;clear HA;simp only [Fa.l0] at H
    by_cases c4 : x5_1<(l0.length : Int)
    ·
     rw [if_pos c4] at H
     have c4b0 : decide (x5_1<(l0.length : Int))=true:=decide_eq_true c4;clear c4
     by_cases c5 : 0≤x5_1
     ·
      rw [if_pos c5] at H
      have c5b0 : decide (0≤x5_1)=true:=decide_eq_true c5;clear c5
      by_cases c6 : x5_1<(l1.length : Int)
      ·
       rw [if_pos c6] at H
       have c6b0 : decide (x5_1<(l1.length : Int))=true:=decide_eq_true c6;clear c6
       by_cases c7 : (rd l0 x5_1)=(rd l1 x5_1)
       ·
        rw [if_pos c7] at H
        have c7b0 : ((rd l0 x5_1) == (rd l1 x5_1))=true:=ya.mpr c7;have c7b1 : ((rd l0 x5_1) != (rd l1 x5_1))=false:=zX.mpr c7;clear c7;have H':=zh H;clear H;have p298 : 0≤(x5_1 : Int):=zy (by first|(with_reducible assumption)|assumption);have q298 : x5_1<(l0.length : Int):=zy (by first|(with_reducible assumption)|assumption);obtain ⟨ad298,e298,hx298_0⟩:=Kd.at_int HR0.out x5_1 p298 q298
        cases e298
        replace p298:=eq_true p298;replace q298:=eq_true q298;have p299 : 0≤(x5_1 : Int):=zy (by first|(with_reducible assumption)|assumption);have q299 : x5_1<(l1.length : Int):=zy (by first|(with_reducible assumption)|assumption);obtain ⟨ad299,e299,hx299_0⟩:=Kd.at_int HR1.out x5_1 p299 q299
        cases e299
        replace p299:=eq_true p299;replace q299:=eq_true q299
        go_wp2
        repeat (go_quiet (fail);try go_wp2)
        go_roundg k1
        case measure => have:=HK1.out;omega
        case rel => exact ⟨(wrap64 (x5_1 + 1)),(by first|rfl|(simp;done)|(simp [*];done)),H',⟨by have:=HK1.out;omega⟩,by repeat (first|exact yp _|apply yq)⟩
       rw [if_neg c7] at H;have c7b0 : ((rd l0 x5_1) == (rd l1 x5_1))=false:=zY.mpr c7;have c7b1 : ((rd l0 x5_1) != (rd l1 x5_1))=true:=zZ.mpr c7;obtain rfl:=zU H;have p298 : 0≤(x5_1 : Int):=zy (by first|(with_reducible assumption)|assumption);have q298 : x5_1<(l0.length : Int):=zy (by first|(with_reducible assumption)|assumption);obtain ⟨ad298,e298,hx298_0⟩:=Kd.at_int HR0.out x5_1 p298 q298
       cases e298
       replace p298:=eq_true p298;replace q298:=eq_true q298;have p299 : 0≤(x5_1 : Int):=zy (by first|(with_reducible assumption)|assumption);have q299 : x5_1<(l1.length : Int):=zy (by first|(with_reducible assumption)|assumption);obtain ⟨ad299,e299,hx299_0⟩:=Kd.at_int HR1.out x5_1 p299 q299
       cases e299
       replace p299:=eq_true p299;replace q299:=eq_true q299
       go_wp2
       repeat (go_quiet (fail);try go_wp2)
       go_ret
       exact ⟨by first|rfl|(simp;done)|(simp [*];done),by repeat (first|exact yp _|apply yq)⟩
      rw [if_neg c6] at H;exact absurd H (by simp)
     rw [if_neg c5] at H;exact absurd H (by simp)
    rw [if_neg c4] at H;have c4b0 : decide (x5_1<(l0.length : Int))=false:=decide_eq_false c4;clear c4;obtain rfl:=zU H
    go_wp2
    repeat (go_quiet (fail);try go_wp2)
    go_ret
    exact ⟨by first|rfl|(simp;done)|(simp [*];done),by repeat (first|exact yp _|apply yq)⟩
 rw [if_neg c3] at H;have c3b0 : ((l0.length : Int) == (l1.length : Int))=false:=zY.mpr c3;have c3b1 : ((l0.length : Int) != (l1.length : Int))=true:=zZ.mpr c3;have c3b2 : (l0.length == l1.length)=false:=by first|simpa using c3|(simp at c3 ⊢;omega)
 obtain rfl:=zU H
 go_enter Try.func13,Try.ntmps13
 go_wp2
 repeat (go_quiet (fail);try go_wp2)
 go_ret
 exact ⟨by first|rfl|(simp;done)|(simp [*];done),by repeat (first|exact yp _|apply yq)⟩


def Fb.f (k : Nat) (a0_0 : Int) (l0_1 : List (S51)) (a1_0 : Int) (l1_1 : List (S51)) : Option (Bool):=if a0_0=a1_0 then ((F8.f k l0_1 l1_1).bind fun t302 => (if t302=true then (some true) else (some false))) else (some false)
theorem Fb.mono : ∀ a0 a1 a2 a3 k,LeO (Fb.f k a0 a1 a2 a3) (Fb.f (k + 1) a0 a1 a2 a3):=by
 intro a0 a1 a2 a3 k;unfold Fb.f
 repeat' first|(with_reducible first|exact F8.mono _ _ _|exact zQ _|exact zN _|refine zP ?_ ?_|refine zO ?_ (fun _ => ?_))|refine zP ?_ ?_|refine zO ?_ (fun _ => ?_)
set_option maxHeartbeats 8000000 in
set_option maxRecDepth 100000 in
theorem Fb.calls (k : Nat) (a0_0 : Int) (A0_1 : Option Addr) (c0_1 : Nat) (l0_1 : List (S51)) (a1_0 : Int) (A1_1 : Option Addr) (c1_1 : Nat) (l1_1 : List (S51)) (r : Bool) (w : World) (hr0_1 : Kd.C k51 w A0_1 l0_1.length l0_1) (hc0_1 : l0_1.length≤c0_1) (hr1_1 : Kd.C k51 w A1_1 l1_1.length l1_1) (hc1_1 : l1_1.length≤c1_1) (h : Fb.f k a0_0 l0_1 a1_0 l1_1=some r) :
  Calls Try.prog 60 #[.agg #[.int .i64 a0_0,.slice A0_1 l0_1.length c0_1],.agg #[.int .i64 a1_0,.slice A1_1 l1_1.length c1_1]] w fun e w' => e = .returned (.bool r)∧Below w.heap.size w w':=by
 have hu67:=Try.underlying67;have HR0_1:=zh hr0_1;have HC0_1:=zh hc0_1;clear hr0_1 hc0_1;have HR1_1:=zh hr1_1;have HC1_1:=zh hc1_1;clear hr1_1 hc1_1;have HB:=zh (Below.refl w.heap.size w);have H : (if a0_0=a1_0 then ((F8.f k l0_1 l1_1).bind fun t302 => (if t302=true then (some true) else (some false))) else (some false))=some r:=h;clear h
 by_cases c3 : a0_0=a1_0
 ·
  rw [if_pos c3] at H
  have c3b0 : (a0_0 == a1_0)=true:=ya.mpr c3;have c3b1 : (a0_0 != a1_0)=false:=zX.mpr c3;clear c3;replace H:=zT.mp H;obtain ⟨t302,A40,H⟩:=H;replace H : (if t302=true then (some true) else (some false))=some r:=H;have A4:=zh A40;clear A40
  by_cases c5 : t302=true
  ·
   subst c5
   have H1 : (some true)=some r:=by rw [if_pos rfl] at H;exact H
   clear H;have H:=H1;clear H1;obtain rfl:=zU H
   go_enter Try.func60,Try.ntmps60
   go_wp2_with (first|((with_reducible refine zK (N:=2) rfl ?_);refine zI ?hg (N:=2) ?hd (cs:=#[.int .i64 a0_0,.slice A0_1 l0_1.length c0_1]) (t:=67) ?hr ?_;(case hd|hg => rfl);(case hr => go_simp <;> rfl);intro gb300 hg w6 hbox hb;have BK300:=zh (hbox);have hH_:=cH (by repeat (with_reducible first|exact HB.out|apply za|apply zb|apply zc)) hb hg;have GW300:=zh hH_.1;have GE300:=GW300;replace HB:=zh hH_.2;clear hb hbox hg hH_)|((with_reducible refine zK (N:=3) rfl ?_);refine zI ?hg (N:=3) ?hd (cs:=#[.int .i64 a1_0,.slice A1_1 l1_1.length c1_1]) (t:=67) ?hr ?_;(case hd|hg => rfl);(case hr => go_simp <;> rfl);intro gb301 hg w7 hbox hb;have BK301:=zh (hbox);have hH_:=cH (by repeat (with_reducible first|exact HB.out|apply za|apply zb|apply zc|refine zd ?_ GE300.out)) hb hg;have GW301:=zh hH_.1;have GE301:=GW301;replace HB:=zh hH_.2;have NB300_301:=zh ((by rw [hg];exact yc (yi (g:=gb300) (o:=.cells #[.int .i64 a0_0,.slice A0_1 l0_1.length c0_1] 67 (0,0)) (by (with_reducible repeat first|apply ze|apply zf|apply zg);exact BK300.out)) : gb300≠gb301));have NB301_300:=zh NB300_301.out.symm;replace BK300:=zh (cD BK300.out (by (with_reducible repeat first|apply ze|apply zf|apply zg);exact BK300.out) hb);clear hb hbox hg hH_;have hnb8:=NB300_301.out;have hnc8:=NB301_300.out;obtain ⟨hcz9_0,hcz9_1,hfz9_0,hfz9_1⟩:=cB2 BK300.out;obtain ⟨hcz10_0,hcz10_1,hfz10_0,hfz10_1⟩:=cB2 BK301.out)|((with_reducible refine zJ (f:=12) rfl ?_);refine yj (some 14) rfl rfl Try.func12 (by kernel_rfl) rfl #[.slice A0_1 l0_1.length c0_1,.slice A1_1 l1_1.length c1_1] rfl (by (try simp only [zt,zu,zv]);first|done|rfl|(simp only [zw,zx];rfl)|(simp only [yr,ys,zV,zW];rfl)) ?_;(with_reducible refine (F8.calls k  _ _ l0_1 _ _ l1_1 true _ ?side1 ?side2 ?side3 ?side4 A4.out).mono ?_);(case side1 => repeat (first|exact (Kd.C_below HR0_1.out HB.out)|(with_reducible refine Kd.C_alloc ?_ _)|(with_reducible refine Kd.C_drewN ?_ _)|(with_reducible refine Kd.C_drew ?_)));(case side2 => exact HC0_1.out);(case side3 => repeat (first|exact (Kd.C_below HR1_1.out HB.out)|(with_reducible refine Kd.C_alloc ?_ _)|(with_reducible refine Kd.C_drewN ?_ _)|(with_reducible refine Kd.C_drew ?_)));(case side4 => exact HC1_1.out);rintro e w11 ⟨rfl,hb⟩;refine ⟨_,rfl,?_⟩;replace BK300:=zh (cD BK300.out (by (with_reducible repeat first|apply ze|apply zf|apply zg);exact BK300.out) hb);replace BK301:=zh (cD BK301.out (by (with_reducible repeat first|apply ze|apply zf|apply zg);exact BK301.out) hb);replace HB:=zh (zC (by repeat (with_reducible first|exact HB.out|apply za|apply zb|apply zc|refine zd ?_ GE300.out|refine zd ?_ GE301.out)) hb);(try clear hb);(try clear hb2);(try clear hk);(try clear hi)))
   go_ret
   exact ⟨by first|rfl|(simp [yt,yu] <;> rfl)|(simp [*,yt,yu] <;> rfl),by repeat (with_reducible first|exact HB.out|apply za|apply zb|apply zc|refine zd ?_ GE300.out|refine zd ?_ GE301.out)⟩
  replace c5:=yb.mpr c5;subst c5;have H1 : (some false)=some r:=by rw [if_neg (show ¬ (false=true) by decide)] at H;exact H
  clear H;have H:=H1;clear H1;obtain rfl:=zU H
  go_enter Try.func60,Try.ntmps60
  go_wp2_with (first|((with_reducible refine zK (N:=2) rfl ?_);refine zI ?hg (N:=2) ?hd (cs:=#[.int .i64 a0_0,.slice A0_1 l0_1.length c0_1]) (t:=67) ?hr ?_;(case hd|hg => rfl);(case hr => go_simp <;> rfl);intro gb300 hg w12 hbox hb;have BK300:=zh (hbox);have hH_:=cH (by repeat (with_reducible first|exact HB.out|apply za|apply zb|apply zc)) hb hg;have GW300:=zh hH_.1;have GE300:=GW300;replace HB:=zh hH_.2;clear hb hbox hg hH_)|((with_reducible refine zK (N:=3) rfl ?_);refine zI ?hg (N:=3) ?hd (cs:=#[.int .i64 a1_0,.slice A1_1 l1_1.length c1_1]) (t:=67) ?hr ?_;(case hd|hg => rfl);(case hr => go_simp <;> rfl);intro gb301 hg w13 hbox hb;have BK301:=zh (hbox);have hH_:=cH (by repeat (with_reducible first|exact HB.out|apply za|apply zb|apply zc|refine zd ?_ GE300.out)) hb hg;have GW301:=zh hH_.1;have GE301:=GW301;replace HB:=zh hH_.2;have NB300_301:=zh ((by rw [hg];exact yc (yi (g:=gb300) (o:=.cells #[.int .i64 a0_0,.slice A0_1 l0_1.length c0_1] 67 (0,0)) (by (with_reducible repeat first|apply ze|apply zf|apply zg);exact BK300.out)) : gb300≠gb301));have NB301_300:=zh NB300_301.out.symm;replace BK300:=zh (cD BK300.out (by (with_reducible repeat first|apply ze|apply zf|apply zg);exact BK300.out) hb);clear hb hbox hg hH_;have hnb14:=NB300_301.out;have hnc14:=NB301_300.out;obtain ⟨hcz15_0,hcz15_1,hfz15_0,hfz15_1⟩:=cB2 BK300.out;obtain ⟨hcz16_0,hcz16_1,hfz16_0,hfz16_1⟩:=cB2 BK301.out)|((with_reducible refine zJ (f:=12) rfl ?_);refine yj (some 14) rfl rfl Try.func12 (by kernel_rfl) rfl #[.slice A0_1 l0_1.length c0_1,.slice A1_1 l1_1.length c1_1] rfl (by (try simp only [zt,zu,zv]);first|done|rfl|(simp only [zw,zx];rfl)|(simp only [yr,ys,zV,zW];rfl)) ?_;(with_reducible refine (F8.calls k  _ _ l0_1 _ _ l1_1 false _ ?side1 ?side2 ?side3 ?side4 A4.out).mono ?_);(case side1 => repeat (first|exact (Kd.C_below HR0_1.out HB.out)|(with_reducible refine Kd.C_alloc ?_ _)|(with_reducible refine Kd.C_drewN ?_ _)|(with_reducible refine Kd.C_drew ?_)));(case side2 => exact HC0_1.out);(case side3 => repeat (first|exact (Kd.C_below HR1_1.out HB.out)|(with_reducible refine Kd.C_alloc ?_ _)|(with_reducible refine Kd.C_drewN ?_ _)|(with_reducible refine Kd.C_drew ?_)));(case side4 => exact HC1_1.out);rintro e w17 ⟨rfl,hb⟩;refine ⟨_,rfl,?_⟩;replace BK300:=zh (cD BK300.out (by (with_reducible repeat first|apply ze|apply zf|apply zg);exact BK300.out) hb);replace BK301:=zh (cD BK301.out (by (with_reducible repeat first|apply ze|apply zf|apply zg);exact BK301.out) hb);replace HB:=zh (zC (by repeat (with_reducible first|exact HB.out|apply za|apply zb|apply zc|refine zd ?_ GE300.out|refine zd ?_ GE301.out)) hb);(try clear hb);(try clear hb2);(try clear hk);(try clear hi)))
  go_ret
  exact ⟨by first|rfl|(simp [yt,yu] <;> rfl)|(simp [*,yt,yu] <;> rfl),by repeat (with_reducible first|exact HB.out|apply za|apply zb|apply zc|refine zd ?_ GE300.out|refine zd ?_ GE301.out)⟩
 rw [if_neg c3] at H;have c3b0 : (a0_0 == a1_0)=false:=zY.mpr c3;have c3b1 : (a0_0 != a1_0)=true:=zZ.mpr c3;obtain rfl:=zU H
 go_enter Try.func60,Try.ntmps60
 go_wp2_with (first|((with_reducible refine zK (N:=2) rfl ?_);refine zI ?hg (N:=2) ?hd (cs:=#[.int .i64 a0_0,.slice A0_1 l0_1.length c0_1]) (t:=67) ?hr ?_;(case hd|hg => rfl);(case hr => go_simp <;> rfl);intro gb300 hg w18 hbox hb;have BK300:=zh (hbox);have hH_:=cH (by repeat (with_reducible first|exact HB.out|apply za|apply zb|apply zc)) hb hg;have GW300:=zh hH_.1;have GE300:=GW300;replace HB:=zh hH_.2;clear hb hbox hg hH_)|((with_reducible refine zK (N:=3) rfl ?_);refine zI ?hg (N:=3) ?hd (cs:=#[.int .i64 a1_0,.slice A1_1 l1_1.length c1_1]) (t:=67) ?hr ?_;(case hd|hg => rfl);(case hr => go_simp <;> rfl);intro gb301 hg w19 hbox hb;have BK301:=zh (hbox);have hH_:=cH (by repeat (with_reducible first|exact HB.out|apply za|apply zb|apply zc|refine zd ?_ GE300.out)) hb hg;have GW301:=zh hH_.1;have GE301:=GW301;replace HB:=zh hH_.2;have NB300_301:=zh ((by rw [hg];exact yc (yi (g:=gb300) (o:=.cells #[.int .i64 a0_0,.slice A0_1 l0_1.length c0_1] 67 (0,0)) (by (with_reducible repeat first|apply ze|apply zf|apply zg);exact BK300.out)) : gb300≠gb301));have NB301_300:=zh NB300_301.out.symm;replace BK300:=zh (cD BK300.out (by (with_reducible repeat first|apply ze|apply zf|apply zg);exact BK300.out) hb);clear hb hbox hg hH_;have hnb20:=NB300_301.out;have hnc20:=NB301_300.out;obtain ⟨hcz21_0,hcz21_1,hfz21_0,hfz21_1⟩:=cB2 BK300.out;obtain ⟨hcz22_0,hcz22_1,hfz22_0,hfz22_1⟩:=cB2 BK301.out))
 go_ret
 exact ⟨by first|rfl|(simp [yt,yu] <;> rfl)|(simp [*,yt,yu] <;> rfl),by repeat (with_reducible first|exact HB.out|apply za|apply zb|apply zc|refine zd ?_ GE300.out|refine zd ?_ GE301.out)⟩


def Fh.l0 : Nat→List (S67)→List (S67)→Int→Option (Bool)
 | 0,_,_,_ => none
 | k + 1,x0,x1,x5 => if x5<(x0.length : Int) then (if 0≤x5 then (if x5<(x1.length : Int) then ((Fb.f k ((rd_T67 x0 x5).f0) ((rd_T67 x0 x5).f1) ((rd_T67 x1 x5).f0) ((rd_T67 x1 x5).f1)).bind fun t305 => (if t305=true then (Fh.l0 k x0 x1 (wrap64 (x5 + 1))) else (some false))) else (none)) else (none)) else (some true)
def Fh.f (k : Nat) (l0 : List (S67)) (l1 : List (S67)) : Option (Bool):=if (l0.length : Int)=(l1.length : Int) then (Fh.l0 k l0 l1 0) else (some false)
theorem Fh.mono_l : ∀ k,(∀ y0 y1 y2,LeO (Fh.l0 k y0 y1 y2) (Fh.l0 (k + 1) y0 y1 y2))
 | 0 => fun _ _ _ r h => by simp [Fh.l0] at h
 | k + 1 => by
  have ih0:=Fh.mono_l k;intro y0 y1 y2;unfold Fh.l0
  repeat' first|(with_reducible first|exact ih0 _ _ _|exact Fb.mono _ _ _ _ _|exact zQ _|exact zN _|refine zP ?_ ?_|refine zO ?_ (fun _ => ?_))|refine zP ?_ ?_|refine zO ?_ (fun _ => ?_)
theorem Fh.mono : ∀ a0 a1 k,LeO (Fh.f k a0 a1) (Fh.f (k + 1) a0 a1):=by
 intro a0 a1 k;have ih0:=Fh.mono_l k;unfold Fh.f
 repeat' first|(with_reducible first|exact ih0 _ _ _|exact Fb.mono _ _ _ _ _|exact zQ _|exact zN _|refine zP ?_ ?_|refine zO ?_ (fun _ => ?_))|refine zP ?_ ?_|refine zO ?_ (fun _ => ?_)
def Fh.T6 : Bool×List (List Nat×List Nat):=(true,[([],[]),([],[]),([0,1],[0,1]),([2],[2]),([],[]),([],[]),([4,5],[4,5]),([6],[6]),([3,7],[3,7]),([8],[8])])
def Fh.B6 : List Nat:=[0,0,3,7,0,0,48,112,255,511]
theorem Fh.tab6 : rtab .any (opsOf Try.f38 6)=Fh.T6:=by kernel_rfl
theorem Fh.bits6 : waitsOk Fh.T6.2 Fh.B6=true:=by kernel_rfl
set_option maxHeartbeats 8000000 in
set_option maxRecDepth 100000 in
theorem Fh.calls (k : Nat) (A0 : Option Addr) (c0 : Nat) (l0 : List (S67)) (A1 : Option Addr) (c1 : Nat) (l1 : List (S67)) (r : Bool) (w : World) (hr0 : Kd.C k67 w A0 l0.length l0) (hc0 : l0.length≤c0) (hr1 : Kd.C k67 w A1 l1.length l1) (hc1 : l1.length≤c1) (h : Fh.f k l0 l1=some r) :
  Calls Try.prog 38 #[.slice A0 l0.length c0,.slice A1 l1.length c1] w fun e w' => e = .returned (.bool r)∧Below w.heap.size w w':=by
 have hu67:=Try.underlying67;have HR0:=zh hr0;have HC0:=zh hc0;clear hr0 hc0;have HR1:=zh hr1;have HC1:=zh hc1;clear hr1 hc1;have HB:=zh (Below.refl w.heap.size w);have H : (if (l0.length : Int)=(l1.length : Int) then (Fh.l0 k l0 l1 0) else (some false))=some r:=h;clear h
 by_cases c3 : (l0.length : Int)=(l1.length : Int)
 ·
  rw [if_pos c3] at H
  have c3b0 : ((l0.length : Int) == (l1.length : Int))=true:=ya.mpr c3;have c3b1 : ((l0.length : Int) != (l1.length : Int))=false:=zX.mpr c3;have c3b2 : (l0.length == l1.length)=true:=by first|simpa using c3|(simp at c3 ⊢;omega)
  clear c3;have H':=zh H;clear H
  go_enter Try.func38,Try.ntmps38
  go_wp2
  go_loopg [5] k (fun kq v5 w' => ∃ (x5_1 : Int),v5 = .int .i64 x5_1∧Aside0 (Fh.l0 kq l0 l1 x5_1=some r)∧Aside0 (kq≤k)∧Aside0 (Below w.heap.size w w'))
  case atStart => exact ⟨(0),(by first|rfl|(simp;done)|(simp [*];done)),H',⟨ye _⟩,⟨by repeat (with_reducible first|exact HB.out|apply za|apply zb|apply zc)⟩⟩
  case round =>
   clear H'
   try clear c1
   try clear p2
   try clear c3 c3b0 c3b1 c3b2
   obtain ⟨x5_1,rfl,HA,HK1,HB⟩:=hrel
   cases gk with
   | zero => exact absurd HA.out (by simp [Fh.l0])
   | succ k1 =>
    have H:=HA.out;clear HA;simp only [Fh.l0] at H
    by_cases c4 : x5_1<(l0.length : Int)
    ·
     rw [if_pos c4] at H
     have c4b0 : decide (x5_1<(l0.length : Int))=true:=decide_eq_true c4;clear c4
     by_cases c5 : 0≤x5_1
     ·
      rw [if_pos c5] at H
      have c5b0 : decide (0≤x5_1)=true:=decide_eq_true c5;clear c5
      by_cases c6 : x5_1<(l1.length : Int)
      ·
       rw [if_pos c6] at H
       have c6b0 : decide (x5_1<(l1.length : Int))=true:=decide_eq_true c6;clear c6;replace H:=zT.mp H;obtain ⟨t305,A70,H⟩:=H;replace H : (if t305=true then (Fh.l0 k1 l0 l1 (wrap64 (x5_1 + 1))) else (some false))=some r:=H;have A7:=zh A70;clear A70
       by_cases c8 : t305=true
       ·
        subst c8
        have H1 : (Fh.l0 k1 l0 l1 (wrap64 (x5_1 + 1)))=some r:=by rw [if_pos rfl] at H;exact H
        clear H;have H:=H1;clear H1;have H':=zh H;clear H
        try go_wp2
        replace HB:=zh (zc HB.out);have p303 : 0≤(x5_1 : Int):=zy (by first|(with_reducible assumption)|assumption);have q303 : x5_1<(l0.length : Int):=zy (by first|(with_reducible assumption)|assumption);obtain ⟨ad303,A303_1,c303_1,e303,hx303_0,hx303_1,hl303_1,hi303_1⟩:=at_T67 HR0.out x5_1 p303 q303;have hw303_1:=hx303_1;have hw303_0:=hx303_0
        cases e303
        replace hx303_0:=(HB.out.cell (zl w _ hx303_0)).trans hx303_0;replace hx303_1:=(HB.out.cell (zl w _ hx303_1)).trans hx303_1;have HR303_1:=zh hi303_1;have HC303_1:=zh hl303_1;clear hi303_1 hl303_1;replace p303:=eq_true p303;replace q303:=eq_true q303;have p304 : 0≤(x5_1 : Int):=zy (by first|(with_reducible assumption)|assumption);have q304 : x5_1<(l1.length : Int):=zy (by first|(with_reducible assumption)|assumption);obtain ⟨ad304,A304_1,c304_1,e304,hx304_0,hx304_1,hl304_1,hi304_1⟩:=at_T67 HR1.out x5_1 p304 q304;have hw304_1:=hx304_1;have hw304_0:=hx304_0
        cases e304
        replace hx304_0:=(HB.out.cell (zl w _ hx304_0)).trans hx304_0;replace hx304_1:=(HB.out.cell (zl w _ hx304_1)).trans hx304_1;have HR304_1:=zh hi304_1;have HC304_1:=zh hl304_1;clear hi304_1 hl304_1;replace p304:=eq_true p304;replace q304:=eq_true q304;refine start_ (n:=10) (S:=fun w' => w'.cell? (ad303.add ((x5_1).toNat * 2))=some (.int .i64 ((rd_T67 l0 x5_1).f0))∧w'.cell? ⟨(ad303.add ((x5_1).toNat * 2)).block,(ad303.add ((x5_1).toNat * 2)).off + 1,none⟩=some (.slice A303_1 ((rd_T67 l0 x5_1).f1).length c303_1)∧w'.cell? (ad304.add ((x5_1).toNat * 2))=some (.int .i64 ((rd_T67 l1 x5_1).f0))∧w'.cell? ⟨(ad304.add ((x5_1).toNat * 2)).block,(ad304.add ((x5_1).toNat * 2)).off + 1,none⟩=some (.slice A304_1 ((rd_T67 l1 x5_1).f1).length c304_1)) (ds:=[]) (bm_ 0 10) (by kernel_rfl) rfl rfl ⟨((HB.out.cell (zl w _ hw303_0)).trans hw303_0),((HB.out.cell (zl w _ hw303_1)).trans hw303_1),((HB.out.cell (zl w _ hw304_0)).trans hw304_0),((HB.out.cell (zl w _ hw304_1)).trans hw304_1)⟩ (fun hHeld => ?_);refine with_tabW Fh.tab6 Fh.bits6 (fun HT_ HW_ => ?_);generalize wr.drew=w9 at HB HR303_1 HR304_1 hx303_0 hx303_1 hx304_0 hx304_1 hHeld ⊢;refine pure_ (i:=0) (N:=some 17) (v:=?_) (a':=?_) (bm_ 1 10) rfl rfl (any_of HT_.out (by kernel_rfl)) (fun _ _ _ h => h) (Or.inl ⟨by rfl,?_⟩) ?_ ?_;rotate_left
        ·
         intro w'
         go_simp
         with_reducible rfl
        rotate_left
        ·
         simp only [Act.put,zi,zj,zk,zG,zH]
         rfl
        refine pure_ (i:=1) (N:=some 18) (v:=?_) (a':=?_) (bm_ 2 10) rfl rfl (any_of HT_.out (by kernel_rfl)) (fun _ _ _ h => h) (Or.inl ⟨by rfl,?_⟩) ?_ ?_;rotate_left
        ·
         intro w'
         go_simp
         with_reducible rfl
        rotate_left
        ·
         simp only [Act.put,zi,zj,zk,zG,zH]
         rfl
        refine pure_ (i:=2) (N:=some 19) (v:=?_) (a':=?_) (bm_ 3 10) rfl rfl (any_of HT_.out (by kernel_rfl)) (fun _ _ _ h => h) (Or.inl ⟨by rfl,?_⟩) ?_ ?_;rotate_left
        ·
         intro w'
         go_simp
         with_reducible rfl
        rotate_left
        ·
         simp only [Act.put,zi,zj,zk,zG,zH]
         rfl
        refine pure_ (i:=4) (N:=some 21) (v:=?_) (a':=?_) #[true,true,true,false,true,false,false,false,false,false] rfl rfl (any_of HT_.out (by kernel_rfl)) (fun _ _ _ h => h) (Or.inl ⟨by rfl,?_⟩) ?_ ?_;rotate_left
        ·
         intro w'
         go_simp
         with_reducible rfl
        rotate_left
        ·
         simp only [Act.put,zi,zj,zk,zG,zH]
         rfl
        refine pure_ (i:=5) (N:=some 22) (v:=?_) (a':=?_) #[true,true,true,false,true,true,false,false,false,false] rfl rfl (any_of HT_.out (by kernel_rfl)) (fun _ _ _ h => h) (Or.inl ⟨by rfl,?_⟩) ?_ ?_;rotate_left
        ·
         intro w'
         go_simp
         with_reducible rfl
        rotate_left
        ·
         simp only [Act.put,zi,zj,zk,zG,zH]
         rfl
        refine pure_ (i:=6) (N:=some 23) (v:=?_) (a':=?_) #[true,true,true,false,true,true,true,false,false,false] rfl rfl (any_of HT_.out (by kernel_rfl)) (fun _ _ _ h => h) (Or.inl ⟨by rfl,?_⟩) ?_ ?_;rotate_left
        ·
         intro w'
         go_simp
         with_reducible rfl
        rotate_left
        ·
         simp only [Act.put,zi,zj,zk,zG,zH]
         rfl
        refine take_ (i:=3) (N:=some 20) (v:=?_) (a':=?_) (bm_ 7 10) rfl rfl (yo HT_.out HW_.out (by kernel_rfl)) (fun _ _ _ h => h) (Or.inl ⟨by rfl,?_⟩) hHeld ?_ ?_;rotate_left
        ·
         rintro w' ⟨s0,s1,s2,s3⟩
         go_simp
         with_reducible rfl
        rotate_left
        ·
         simp only [Act.put,zi,zj,zk,zG,zH]
         rfl
        refine take_ (i:=7) (N:=some 24) (v:=?_) (a':=?_) (bm_ 8 10) rfl rfl (yo HT_.out HW_.out (by kernel_rfl)) (fun _ _ _ h => h) (Or.inl ⟨by rfl,?_⟩) hHeld ?_ ?_;rotate_left
        ·
         rintro w' ⟨s0,s1,s2,s3⟩
         go_simp
         with_reducible rfl
        rotate_left
        ·
         simp only [Act.put,zi,zj,zk,zG,zH]
         rfl
        refine one_ (i:=8) (N:=some 25) (bm_ 9 10) rfl rfl (one_of HT_.out (by kernel_rfl)) (by decide) (fun K hK => ?_);refine goes_ Try.func60 (by kernel_rfl) rfl #[.agg #[.int .i64 ((rd_T67 l0 x5_1).f0),.slice A303_1 ((rd_T67 l0 x5_1).f1).length c303_1],.agg #[.int .i64 ((rd_T67 l1 x5_1).f0),.slice A304_1 ((rd_T67 l1 x5_1).f1).length c304_1]] (by rfl) rfl rfl (by (try simp only [zt,zu,zv]);first|done|rfl|(simp only [zw,zx];rfl)|(simp only [yr,ys,zV,zW];rfl)) ?_
        with_reducible refine (Fb.calls k1  ((rd_T67 l0 x5_1).f0) _ _ ((rd_T67 l0 x5_1).f1) ((rd_T67 l1 x5_1).f0) _ _ ((rd_T67 l1 x5_1).f1) true _ ?side1 ?side2 ?side3 ?side4 A7.out).mono ?_
        (case side1 => repeat (first|exact (Kd.C_below HR303_1.out HB.out)|(with_reducible refine Kd.C_alloc ?_ _)|(with_reducible refine Kd.C_drewN ?_ _)|(with_reducible refine Kd.C_drew ?_)))
        (case side2 => exact HC303_1.out)
        (case side3 => repeat (first|exact (Kd.C_below HR304_1.out HB.out)|(with_reducible refine Kd.C_alloc ?_ _)|(with_reducible refine Kd.C_drewN ?_ _)|(with_reducible refine Kd.C_drew ?_)))
        (case side4 => exact HC304_1.out)
        rintro e w10 ⟨rfl,hb⟩;refine ⟨_,rfl,?_⟩;replace HB:=zh (zC (by repeat (with_reducible first|exact HB.out|apply za|apply zb|apply zc)) hb);(try clear hb);(try clear hb2);(try clear hk);(try clear hi);refine hK.out _ _ ⟨((HB.out.cell (zl w _ hw303_0)).trans hw303_0),((HB.out.cell (zl w _ hw303_1)).trans hw303_1),((HB.out.cell (zl w _ hw304_0)).trans hw304_0),((HB.out.cell (zl w _ hw304_1)).trans hw304_1)⟩ (fun hHeld => ?_);clear hK K;refine norm_ (a':=?_) ?_ ?_;rotate_left
        ·
         show Act.put _ (some 25) _=_
         simp only [Act.put,zi,zj,zk,zG,zH]
         rfl
        refine pure_ (i:=9) (N:=some 26) (v:=?_) (a':=?_) (bm_ 10 10) rfl rfl (any_of HT_.out (by kernel_rfl)) (fun _ _ _ h => h) (Or.inl ⟨by rfl,?_⟩) ?_ ?_;rotate_left
        ·
         intro w'
         go_simp
         with_reducible rfl
        rotate_left
        ·
         simp only [Act.put,zi,zj,zk,zG,zH]
         rfl
        refine done_ (done_of HT_.out (by kernel_rfl)) ?_
        try go_wp2
        go_roundg k1
        case measure => have:=HK1.out;omega
        case rel => exact ⟨(wrap64 (x5_1 + 1)),(by first|rfl|(simp;done)|(simp [*];done)),H',⟨by have:=HK1.out;omega⟩,⟨by repeat (with_reducible first|exact HB.out|apply za|apply zb|apply zc)⟩⟩
       replace c8:=yb.mpr c8;subst c8;have H1 : (some false)=some r:=by rw [if_neg (show ¬ (false=true) by decide)] at H;exact H
       clear H;have H:=H1;clear H1;obtain rfl:=zU H
       try go_wp2
       replace HB:=zh (zc HB.out);have p303 : 0≤(x5_1 : Int):=zy (by first|(with_reducible assumption)|assumption);have q303 : x5_1<(l0.length : Int):=zy (by first|(with_reducible assumption)|assumption);obtain ⟨ad303,A303_1,c303_1,e303,hx303_0,hx303_1,hl303_1,hi303_1⟩:=at_T67 HR0.out x5_1 p303 q303;have hw303_1:=hx303_1;have hw303_0:=hx303_0
       cases e303
       replace hx303_0:=(HB.out.cell (zl w _ hx303_0)).trans hx303_0;replace hx303_1:=(HB.out.cell (zl w _ hx303_1)).trans hx303_1;have HR303_1:=zh hi303_1;have HC303_1:=zh hl303_1;clear hi303_1 hl303_1;replace p303:=eq_true p303;replace q303:=eq_true q303;have p304 : 0≤(x5_1 : Int):=zy (by first|(with_reducible assumption)|assumption);have q304 : x5_1<(l1.length : Int):=zy (by first|(with_reducible assumption)|assumption);obtain ⟨ad304,A304_1,c304_1,e304,hx304_0,hx304_1,hl304_1,hi304_1⟩:=at_T67 HR1.out x5_1 p304 q304;have hw304_1:=hx304_1;have hw304_0:=hx304_0
       cases e304
       replace hx304_0:=(HB.out.cell (zl w _ hx304_0)).trans hx304_0;replace hx304_1:=(HB.out.cell (zl w _ hx304_1)).trans hx304_1;have HR304_1:=zh hi304_1;have HC304_1:=zh hl304_1;clear hi304_1 hl304_1;replace p304:=eq_true p304;replace q304:=eq_true q304;refine start_ (n:=10) (S:=fun w' => w'.cell? (ad303.add ((x5_1).toNat * 2))=some (.int .i64 ((rd_T67 l0 x5_1).f0))∧w'.cell? ⟨(ad303.add ((x5_1).toNat * 2)).block,(ad303.add ((x5_1).toNat * 2)).off + 1,none⟩=some (.slice A303_1 ((rd_T67 l0 x5_1).f1).length c303_1)∧w'.cell? (ad304.add ((x5_1).toNat * 2))=some (.int .i64 ((rd_T67 l1 x5_1).f0))∧w'.cell? ⟨(ad304.add ((x5_1).toNat * 2)).block,(ad304.add ((x5_1).toNat * 2)).off + 1,none⟩=some (.slice A304_1 ((rd_T67 l1 x5_1).f1).length c304_1)) (ds:=[]) (bm_ 0 10) (by kernel_rfl) rfl rfl ⟨((HB.out.cell (zl w _ hw303_0)).trans hw303_0),((HB.out.cell (zl w _ hw303_1)).trans hw303_1),((HB.out.cell (zl w _ hw304_0)).trans hw304_0),((HB.out.cell (zl w _ hw304_1)).trans hw304_1)⟩ (fun hHeld => ?_);refine with_tabW Fh.tab6 Fh.bits6 (fun HT_ HW_ => ?_);generalize wr.drew=w11 at HB HR303_1 HR304_1 hx303_0 hx303_1 hx304_0 hx304_1 hHeld ⊢;refine pure_ (i:=0) (N:=some 17) (v:=?_) (a':=?_) (bm_ 1 10) rfl rfl (any_of HT_.out (by kernel_rfl)) (fun _ _ _ h => h) (Or.inl ⟨by rfl,?_⟩) ?_ ?_;rotate_left
       ·
        intro w'
        go_simp
        with_reducible rfl
       rotate_left
       ·
        simp only [Act.put,zi,zj,zk,zG,zH]
        rfl
       refine pure_ (i:=1) (N:=some 18) (v:=?_) (a':=?_) (bm_ 2 10) rfl rfl (any_of HT_.out (by kernel_rfl)) (fun _ _ _ h => h) (Or.inl ⟨by rfl,?_⟩) ?_ ?_;rotate_left
       ·
        intro w'
        go_simp
        with_reducible rfl
       rotate_left
       ·
        simp only [Act.put,zi,zj,zk,zG,zH]
        rfl
       refine pure_ (i:=2) (N:=some 19) (v:=?_) (a':=?_) (bm_ 3 10) rfl rfl (any_of HT_.out (by kernel_rfl)) (fun _ _ _ h => h) (Or.inl ⟨by rfl,?_⟩) ?_ ?_;rotate_left
       ·
        intro w'
        go_simp
        with_reducible rfl
       rotate_left
       ·
        simp only [Act.put,zi,zj,zk,zG,zH]
        rfl
       refine pure_ (i:=4) (N:=some 21) (v:=?_) (a':=?_) #[true,true,true,false,true,false,false,false,false,false] rfl rfl (any_of HT_.out (by kernel_rfl)) (fun _ _ _ h => h) (Or.inl ⟨by rfl,?_⟩) ?_ ?_;rotate_left
       ·
        intro w'
        go_simp
        with_reducible rfl
       rotate_left
       ·
        simp only [Act.put,zi,zj,zk,zG,zH]
        rfl
       refine pure_ (i:=5) (N:=some 22) (v:=?_) (a':=?_) #[true,true,true,false,true,true,false,false,false,false] rfl rfl (any_of HT_.out (by kernel_rfl)) (fun _ _ _ h => h) (Or.inl ⟨by rfl,?_⟩) ?_ ?_;rotate_left
       ·
        intro w'
        go_simp
        with_reducible rfl
       rotate_left
       ·
        simp only [Act.put,zi,zj,zk,zG,zH]
        rfl
       refine pure_ (i:=6) (N:=some 23) (v:=?_) (a':=?_) #[true,true,true,false,true,true,true,false,false,false] rfl rfl (any_of HT_.out (by kernel_rfl)) (fun _ _ _ h => h) (Or.inl ⟨by rfl,?_⟩) ?_ ?_;rotate_left
       ·
        intro w'
        go_simp
        with_reducible rfl
       rotate_left
       ·
        simp only [Act.put,zi,zj,zk,zG,zH]
        rfl
       refine take_ (i:=3) (N:=some 20) (v:=?_) (a':=?_) (bm_ 7 10) rfl rfl (yo HT_.out HW_.out (by kernel_rfl)) (fun _ _ _ h => h) (Or.inl ⟨by rfl,?_⟩) hHeld ?_ ?_;rotate_left
       ·
        rintro w' ⟨s0,s1,s2,s3⟩
        go_simp
        with_reducible rfl
       rotate_left
       ·
        simp only [Act.put,zi,zj,zk,zG,zH]
        rfl
       refine take_ (i:=7) (N:=some 24) (v:=?_) (a':=?_) (bm_ 8 10) rfl rfl (yo HT_.out HW_.out (by kernel_rfl)) (fun _ _ _ h => h) (Or.inl ⟨by rfl,?_⟩) hHeld ?_ ?_;rotate_left
       ·
        rintro w' ⟨s0,s1,s2,s3⟩
        go_simp
        with_reducible rfl
       rotate_left
       ·
        simp only [Act.put,zi,zj,zk,zG,zH]
        rfl
       refine one_ (i:=8) (N:=some 25) (bm_ 9 10) rfl rfl (one_of HT_.out (by kernel_rfl)) (by decide) (fun K hK => ?_);refine goes_ Try.func60 (by kernel_rfl) rfl #[.agg #[.int .i64 ((rd_T67 l0 x5_1).f0),.slice A303_1 ((rd_T67 l0 x5_1).f1).length c303_1],.agg #[.int .i64 ((rd_T67 l1 x5_1).f0),.slice A304_1 ((rd_T67 l1 x5_1).f1).length c304_1]] (by rfl) rfl rfl (by (try simp only [zt,zu,zv]);first|done|rfl|(simp only [zw,zx];rfl)|(simp only [yr,ys,zV,zW];rfl)) ?_
       with_reducible refine (Fb.calls k1  ((rd_T67 l0 x5_1).f0) _ _ ((rd_T67 l0 x5_1).f1) ((rd_T67 l1 x5_1).f0) _ _ ((rd_T67 l1 x5_1).f1) false _ ?side1 ?side2 ?side3 ?side4 A7.out).mono ?_
       (case side1 => repeat (first|exact (Kd.C_below HR303_1.out HB.out)|(with_reducible refine Kd.C_alloc ?_ _)|(with_reducible refine Kd.C_drewN ?_ _)|(with_reducible refine Kd.C_drew ?_)))
       (case side2 => exact HC303_1.out)
       (case side3 => repeat (first|exact (Kd.C_below HR304_1.out HB.out)|(with_reducible refine Kd.C_alloc ?_ _)|(with_reducible refine Kd.C_drewN ?_ _)|(with_reducible refine Kd.C_drew ?_)))
       (case side4 => exact HC304_1.out)
       rintro e w12 ⟨rfl,hb⟩;refine ⟨_,rfl,?_⟩;replace HB:=zh (zC (by repeat (with_reducible first|exact HB.out|apply za|apply zb|apply zc)) hb);(try clear hb);(try clear hb2);(try clear hk);(try clear hi);refine hK.out _ _ ⟨((HB.out.cell (zl w _ hw303_0)).trans hw303_0),((HB.out.cell (zl w _ hw303_1)).trans hw303_1),((HB.out.cell (zl w _ hw304_0)).trans hw304_0),((HB.out.cell (zl w _ hw304_1)).trans hw304_1)⟩ (fun hHeld => ?_);clear hK K;refine norm_ (a':=?_) ?_ ?_;rotate_left
       ·
        show Act.put _ (some 25) _=_
        simp only [Act.put,zi,zj,zk,zG,zH]
        rfl
       refine pure_ (i:=9) (N:=some 26) (v:=?_) (a':=?_) (bm_ 10 10) rfl rfl (any_of HT_.out (by kernel_rfl)) (fun _ _ _ h => h) (Or.inl ⟨by rfl,?_⟩) ?_ ?_;rotate_left
       ·
        intro w'
        go_simp
        with_reducible rfl
       rotate_left
       ·
        simp only [Act.put,zi,zj,zk,zG,zH]
        rfl
       refine done_ (done_of HT_.out (by kernel_rfl)) ?_
       try go_wp2
       go_ret
       exact ⟨by first|rfl|(simp [yt,yu] <;> rfl)|(simp [*,yt,yu] <;> rfl),by repeat (with_reducible first|exact HB.out|apply za|apply zb|apply zc)⟩
      rw [if_neg c6] at H;exact absurd H (by simp)
     rw [if_neg c5] at H;exact absurd H (by simp)
    rw [if_neg c4] at H;have c4b0 : decide (x5_1<(l0.length : Int))=false:=decide_eq_false c4;clear c4;obtain rfl:=zU H
    go_wp2
    go_ret
    exact ⟨by first|rfl|(simp [yt,yu] <;> rfl)|(simp [*,yt,yu] <;> rfl),by repeat (with_reducible first|exact HB.out|apply za|apply zb|apply zc)⟩
 rw [if_neg c3] at H;have c3b0 : ((l0.length : Int) == (l1.length : Int))=false:=zY.mpr c3;have c3b1 : ((l0.length : Int) != (l1.length : Int))=true:=zZ.mpr c3;have c3b2 : (l0.length == l1.length)=false:=by first|simpa using c3|(simp at c3 ⊢;omega)
 obtain rfl:=zU H
 go_enter Try.func38,Try.ntmps38
 go_wp2
 go_ret
 exact ⟨by first|rfl|(simp [yt,yu] <;> rfl)|(simp [*,yt,yu] <;> rfl),by repeat (with_reducible first|exact HB.out|apply za|apply zb|apply zc)⟩


def F06.f (k : Nat) (l0_0 : List (S67)) (a0_1 : Int) (l1_0 : List (S67)) (a1_1 : Int) : Option (Bool):=(Fh.f k l0_0 l1_0).bind fun t308 => (if t308=true then (if a0_1=a1_1 then (some true) else (some false)) else (some false))
theorem F06.mono : ∀ a0 a1 a2 a3 k,LeO (F06.f k a0 a1 a2 a3) (F06.f (k + 1) a0 a1 a2 a3):=by
 intro a0 a1 a2 a3 k;unfold F06.f
 repeat' first|(with_reducible first|exact Fh.mono _ _ _|exact zQ _|exact zN _|refine zP ?_ ?_|refine zO ?_ (fun _ => ?_))|refine zP ?_ ?_|refine zO ?_ (fun _ => ?_)
set_option maxHeartbeats 8000000 in
set_option maxRecDepth 100000 in
theorem F06.calls (k : Nat) (A0_0 : Option Addr) (c0_0 : Nat) (l0_0 : List (S67)) (a0_1 : Int) (A1_0 : Option Addr) (c1_0 : Nat) (l1_0 : List (S67)) (a1_1 : Int) (r : Bool) (w : World) (hr0_0 : Kd.C k67 w A0_0 l0_0.length l0_0) (hc0_0 : l0_0.length≤c0_0) (hr1_0 : Kd.C k67 w A1_0 l1_0.length l1_0) (hc1_0 : l1_0.length≤c1_0) (h : F06.f k l0_0 a0_1 l1_0 a1_1=some r) :
  Calls Try.prog 14 #[.agg #[.slice A0_0 l0_0.length c0_0,.int .i64 a0_1],.agg #[.slice A1_0 l1_0.length c1_0,.int .i64 a1_1]] w fun e w' => e = .returned (.bool r)∧Below w.heap.size w w':=by
 have hu35:=Try.underlying35;have HR0_0:=zh hr0_0;have HC0_0:=zh hc0_0;clear hr0_0 hc0_0;have HR1_0:=zh hr1_0;have HC1_0:=zh hc1_0;clear hr1_0 hc1_0;have HB:=zh (Below.refl w.heap.size w);have H : ((Fh.f k l0_0 l1_0).bind fun t308 => (if t308=true then (if a0_1=a1_1 then (some true) else (some false)) else (some false)))=some r:=h;clear h;replace H:=zT.mp H;obtain ⟨t308,A30,H⟩:=H;replace H : (if t308=true then (if a0_1=a1_1 then (some true) else (some false)) else (some false))=some r:=H;have A3:=zh A30;clear A30
 by_cases c4 : t308=true
 ·
  subst c4
  have H1 : (if a0_1=a1_1 then (some true) else (some false))=some r:=by rw [if_pos rfl] at H;exact H
  clear H;have H:=H1;clear H1
  by_cases c5 : a0_1=a1_1
  ·
   rw [if_pos c5] at H
   have c5b0 : (a0_1 == a1_1)=true:=ya.mpr c5;have c5b1 : (a0_1 != a1_1)=false:=zX.mpr c5;clear c5;obtain rfl:=zU H
   go_enter Try.func14,Try.ntmps14
   go_wp2_with (first|((with_reducible refine zK (N:=2) rfl ?_);refine zI ?hg (N:=2) ?hd (cs:=#[.slice A0_0 l0_0.length c0_0,.int .i64 a0_1]) (t:=35) ?hr ?_;(case hd|hg => rfl);(case hr => go_simp <;> rfl);intro gb306 hg w6 hbox hb;have BK306:=zh (hbox);have hH_:=cH (by repeat (with_reducible first|exact HB.out|apply za|apply zb|apply zc)) hb hg;have GW306:=zh hH_.1;have GE306:=GW306;replace HB:=zh hH_.2;clear hb hbox hg hH_)|((with_reducible refine zK (N:=3) rfl ?_);refine zI ?hg (N:=3) ?hd (cs:=#[.slice A1_0 l1_0.length c1_0,.int .i64 a1_1]) (t:=35) ?hr ?_;(case hd|hg => rfl);(case hr => go_simp <;> rfl);intro gb307 hg w7 hbox hb;have BK307:=zh (hbox);have hH_:=cH (by repeat (with_reducible first|exact HB.out|apply za|apply zb|apply zc|refine zd ?_ GE306.out)) hb hg;have GW307:=zh hH_.1;have GE307:=GW307;replace HB:=zh hH_.2;have NB306_307:=zh ((by rw [hg];exact yc (yi (g:=gb306) (o:=.cells #[.slice A0_0 l0_0.length c0_0,.int .i64 a0_1] 35 (0,0)) (by (with_reducible repeat first|apply ze|apply zf|apply zg);exact BK306.out)) : gb306≠gb307));have NB307_306:=zh NB306_307.out.symm;replace BK306:=zh (cD BK306.out (by (with_reducible repeat first|apply ze|apply zf|apply zg);exact BK306.out) hb);clear hb hbox hg hH_;have hnb8:=NB306_307.out;have hnc8:=NB307_306.out;obtain ⟨hcz9_0,hcz9_1,hfz9_0,hfz9_1⟩:=cB2 BK306.out;obtain ⟨hcz10_0,hcz10_1,hfz10_0,hfz10_1⟩:=cB2 BK307.out)|((with_reducible refine zJ (f:=38) rfl ?_);refine yj (some 9) rfl rfl Try.func38 (by kernel_rfl) rfl #[.slice A0_0 l0_0.length c0_0,.slice A1_0 l1_0.length c1_0] rfl (by (try simp only [zt,zu,zv]);first|done|rfl|(simp only [zw,zx];rfl)|(simp only [yr,ys,zV,zW];rfl)) ?_;(with_reducible refine (Fh.calls k  _ _ l0_0 _ _ l1_0 true _ ?side1 ?side2 ?side3 ?side4 A3.out).mono ?_);(case side1 => repeat (first|exact (Kd.C_below HR0_0.out HB.out)|(with_reducible refine Kd.C_alloc ?_ _)|(with_reducible refine Kd.C_drewN ?_ _)|(with_reducible refine Kd.C_drew ?_)));(case side2 => exact HC0_0.out);(case side3 => repeat (first|exact (Kd.C_below HR1_0.out HB.out)|(with_reducible refine Kd.C_alloc ?_ _)|(with_reducible refine Kd.C_drewN ?_ _)|(with_reducible refine Kd.C_drew ?_)));(case side4 => exact HC1_0.out);rintro e w11 ⟨rfl,hb⟩;refine ⟨_,rfl,?_⟩;replace BK306:=zh (cD BK306.out (by (with_reducible repeat first|apply ze|apply zf|apply zg);exact BK306.out) hb);replace BK307:=zh (cD BK307.out (by (with_reducible repeat first|apply ze|apply zf|apply zg);exact BK307.out) hb);replace HB:=zh (zC (by repeat (with_reducible first|exact HB.out|apply za|apply zb|apply zc|refine zd ?_ GE306.out|refine zd ?_ GE307.out)) hb);(try clear hb);(try clear hb2);(try clear hk);(try clear hi);obtain ⟨hcz12_0,hcz12_1,hfz12_0,hfz12_1⟩:=cB2 BK306.out;obtain ⟨hcz13_0,hcz13_1,hfz13_0,hfz13_1⟩:=cB2 BK307.out))
   go_ret
   exact ⟨by first|rfl|(simp [yt,yu] <;> rfl)|(simp [*,yt,yu] <;> rfl),by repeat (with_reducible first|exact HB.out|apply za|apply zb|apply zc|refine zd ?_ GE306.out|refine zd ?_ GE307.out)⟩
  rw [if_neg c5] at H;have c5b0 : (a0_1 == a1_1)=false:=zY.mpr c5;have c5b1 : (a0_1 != a1_1)=true:=zZ.mpr c5;obtain rfl:=zU H
  go_enter Try.func14,Try.ntmps14
  go_wp2_with (first|((with_reducible refine zK (N:=2) rfl ?_);refine zI ?hg (N:=2) ?hd (cs:=#[.slice A0_0 l0_0.length c0_0,.int .i64 a0_1]) (t:=35) ?hr ?_;(case hd|hg => rfl);(case hr => go_simp <;> rfl);intro gb306 hg w14 hbox hb;have BK306:=zh (hbox);have hH_:=cH (by repeat (with_reducible first|exact HB.out|apply za|apply zb|apply zc)) hb hg;have GW306:=zh hH_.1;have GE306:=GW306;replace HB:=zh hH_.2;clear hb hbox hg hH_)|((with_reducible refine zK (N:=3) rfl ?_);refine zI ?hg (N:=3) ?hd (cs:=#[.slice A1_0 l1_0.length c1_0,.int .i64 a1_1]) (t:=35) ?hr ?_;(case hd|hg => rfl);(case hr => go_simp <;> rfl);intro gb307 hg w15 hbox hb;have BK307:=zh (hbox);have hH_:=cH (by repeat (with_reducible first|exact HB.out|apply za|apply zb|apply zc|refine zd ?_ GE306.out)) hb hg;have GW307:=zh hH_.1;have GE307:=GW307;replace HB:=zh hH_.2;have NB306_307:=zh ((by rw [hg];exact yc (yi (g:=gb306) (o:=.cells #[.slice A0_0 l0_0.length c0_0,.int .i64 a0_1] 35 (0,0)) (by (with_reducible repeat first|apply ze|apply zf|apply zg);exact BK306.out)) : gb306≠gb307));have NB307_306:=zh NB306_307.out.symm;replace BK306:=zh (cD BK306.out (by (with_reducible repeat first|apply ze|apply zf|apply zg);exact BK306.out) hb);clear hb hbox hg hH_;have hnb16:=NB306_307.out;have hnc16:=NB307_306.out;obtain ⟨hcz17_0,hcz17_1,hfz17_0,hfz17_1⟩:=cB2 BK306.out;obtain ⟨hcz18_0,hcz18_1,hfz18_0,hfz18_1⟩:=cB2 BK307.out)|((with_reducible refine zJ (f:=38) rfl ?_);refine yj (some 9) rfl rfl Try.func38 (by kernel_rfl) rfl #[.slice A0_0 l0_0.length c0_0,.slice A1_0 l1_0.length c1_0] rfl (by (try simp only [zt,zu,zv]);first|done|rfl|(simp only [zw,zx];rfl)|(simp only [yr,ys,zV,zW];rfl)) ?_;(with_reducible refine (Fh.calls k  _ _ l0_0 _ _ l1_0 true _ ?side1 ?side2 ?side3 ?side4 A3.out).mono ?_);(case side1 => repeat (first|exact (Kd.C_below HR0_0.out HB.out)|(with_reducible refine Kd.C_alloc ?_ _)|(with_reducible refine Kd.C_drewN ?_ _)|(with_reducible refine Kd.C_drew ?_)));(case side2 => exact HC0_0.out);(case side3 => repeat (first|exact (Kd.C_below HR1_0.out HB.out)|(with_reducible refine Kd.C_alloc ?_ _)|(with_reducible refine Kd.C_drewN ?_ _)|(with_reducible refine Kd.C_drew ?_)));(case side4 => exact HC1_0.out);rintro e w19 ⟨rfl,hb⟩;refine ⟨_,rfl,?_⟩;replace BK306:=zh (cD BK306.out (by (with_reducible repeat first|apply ze|apply zf|apply zg);exact BK306.out) hb);replace BK307:=zh (cD BK307.out (by (with_reducible repeat first|apply ze|apply zf|apply zg);exact BK307.out) hb);replace HB:=zh (zC (by repeat (with_reducible first|exact HB.out|apply za|apply zb|apply zc|refine zd ?_ GE306.out|refine zd ?_ GE307.out)) hb);(try clear hb);(try clear hb2);(try clear hk);(try clear hi);obtain ⟨hcz20_0,hcz20_1,hfz20_0,hfz20_1⟩:=cB2 BK306.out;obtain ⟨hcz21_0,hcz21_1,hfz21_0,hfz21_1⟩:=cB2 BK307.out))
  go_ret
  exact ⟨by first|rfl|(simp [yt,yu] <;> rfl)|(simp [*,yt,yu] <;> rfl),by repeat (with_reducible first|exact HB.out|apply za|apply zb|apply zc|refine zd ?_ GE306.out|refine zd ?_ GE307.out)⟩
 replace c4:=yb.mpr c4;subst c4;have H1 : (some false)=some r:=by rw [if_neg (show ¬ (false=true) by decide)] at H;exact H
 clear H;have H:=H1;clear H1;obtain rfl:=zU H
 go_enter Try.func14,Try.ntmps14
 go_wp2_with (first|((with_reducible refine zK (N:=2) rfl ?_);refine zI ?hg (N:=2) ?hd (cs:=#[.slice A0_0 l0_0.length c0_0,.int .i64 a0_1]) (t:=35) ?hr ?_;(case hd|hg => rfl);(case hr => go_simp <;> rfl);intro gb306 hg w22 hbox hb;have BK306:=zh (hbox);have hH_:=cH (by repeat (with_reducible first|exact HB.out|apply za|apply zb|apply zc)) hb hg;have GW306:=zh hH_.1;have GE306:=GW306;replace HB:=zh hH_.2;clear hb hbox hg hH_)|((with_reducible refine zK (N:=3) rfl ?_);refine zI ?hg (N:=3) ?hd (cs:=#[.slice A1_0 l1_0.length c1_0,.int .i64 a1_1]) (t:=35) ?hr ?_;(case hd|hg => rfl);(case hr => go_simp <;> rfl);intro gb307 hg w23 hbox hb;have BK307:=zh (hbox);have hH_:=cH (by repeat (with_reducible first|exact HB.out|apply za|apply zb|apply zc|refine zd ?_ GE306.out)) hb hg;have GW307:=zh hH_.1;have GE307:=GW307;replace HB:=zh hH_.2;have NB306_307:=zh ((by rw [hg];exact yc (yi (g:=gb306) (o:=.cells #[.slice A0_0 l0_0.length c0_0,.int .i64 a0_1] 35 (0,0)) (by (with_reducible repeat first|apply ze|apply zf|apply zg);exact BK306.out)) : gb306≠gb307));have NB307_306:=zh NB306_307.out.symm;replace BK306:=zh (cD BK306.out (by (with_reducible repeat first|apply ze|apply zf|apply zg);exact BK306.out) hb);clear hb hbox hg hH_;have hnb24:=NB306_307.out;have hnc24:=NB307_306.out;obtain ⟨hcz25_0,hcz25_1,hfz25_0,hfz25_1⟩:=cB2 BK306.out;obtain ⟨hcz26_0,hcz26_1,hfz26_0,hfz26_1⟩:=cB2 BK307.out)|((with_reducible refine zJ (f:=38) rfl ?_);refine yj (some 9) rfl rfl Try.func38 (by kernel_rfl) rfl #[.slice A0_0 l0_0.length c0_0,.slice A1_0 l1_0.length c1_0] rfl (by (try simp only [zt,zu,zv]);first|done|rfl|(simp only [zw,zx];rfl)|(simp only [yr,ys,zV,zW];rfl)) ?_;(with_reducible refine (Fh.calls k  _ _ l0_0 _ _ l1_0 false _ ?side1 ?side2 ?side3 ?side4 A3.out).mono ?_);(case side1 => repeat (first|exact (Kd.C_below HR0_0.out HB.out)|(with_reducible refine Kd.C_alloc ?_ _)|(with_reducible refine Kd.C_drewN ?_ _)|(with_reducible refine Kd.C_drew ?_)));(case side2 => exact HC0_0.out);(case side3 => repeat (first|exact (Kd.C_below HR1_0.out HB.out)|(with_reducible refine Kd.C_alloc ?_ _)|(with_reducible refine Kd.C_drewN ?_ _)|(with_reducible refine Kd.C_drew ?_)));(case side4 => exact HC1_0.out);rintro e w27 ⟨rfl,hb⟩;refine ⟨_,rfl,?_⟩;replace BK306:=zh (cD BK306.out (by (with_reducible repeat first|apply ze|apply zf|apply zg);exact BK306.out) hb);replace BK307:=zh (cD BK307.out (by (with_reducible repeat first|apply ze|apply zf|apply zg);exact BK307.out) hb);replace HB:=zh (zC (by repeat (with_reducible first|exact HB.out|apply za|apply zb|apply zc|refine zd ?_ GE306.out|refine zd ?_ GE307.out)) hb);(try clear hb);(try clear hb2);(try clear hk);(try clear hi)))
 go_ret
 exact ⟨by first|rfl|(simp [yt,yu] <;> rfl)|(simp [*,yt,yu] <;> rfl),by repeat (with_reducible first|exact HB.out|apply za|apply zb|apply zc|refine zd ?_ GE306.out|refine zd ?_ GE307.out)⟩


def Fl.l0 : Nat→Int→ByteArray→Option (ByteArray)
 | 0,_,_ => none
 | k + 1,x0,x3 => if x0 > 0 then ((some (([(wrap64 (48 + (Int.tmod x0 10))) % 256] : List Int) : List Int)).bind fun y309 => (if (strOfNums y309).size + x3.size≤9223372036854775807 then (Fl.l0 k (wrap64 (Int.tdiv x0 10)) ((strOfNums y309) ++ x3)) else (none))) else (if 1 + x3.size≤9223372036854775807 then (some ((⟨#[109]⟩ : ByteArray) ++ x3)) else (none))
def Fl.f (k : Nat) (a0 : Int) : Option (ByteArray):=if a0≤0 then (some (⟨#[109,48]⟩ : ByteArray)) else (Fl.l0 k a0 (⟨#[]⟩ : ByteArray))
theorem Fl.mono_l : ∀ k,(∀ y0 y1,LeO (Fl.l0 k y0 y1) (Fl.l0 (k + 1) y0 y1))
 | 0 => fun _ _ r h => by simp [Fl.l0] at h
 | k + 1 => by
  have ih0:=Fl.mono_l k;intro y0 y1;unfold Fl.l0
  repeat' first|(with_reducible first|exact ih0 _ _|exact zQ _|exact zN _|refine zP ?_ ?_|refine zO ?_ (fun _ => ?_))|refine zP ?_ ?_|refine zO ?_ (fun _ => ?_)
theorem Fl.mono : ∀ a0 k,LeO (Fl.f k a0) (Fl.f (k + 1) a0):=by
 intro a0 k;have ih0:=Fl.mono_l k;unfold Fl.f
 repeat' first|(with_reducible first|exact ih0 _ _|exact zQ _|exact zN _|refine zP ?_ ?_|refine zO ?_ (fun _ => ?_))|refine zP ?_ ?_|refine zO ?_ (fun _ => ?_)
set_option maxHeartbeats 8000000 in
set_option maxRecDepth 100000 in
theorem Fl.calls (k : Nat) (a0 : Int) (r : ByteArray) (w : World) (h : Fl.f k a0=some r) :
  Calls Try.prog 40 #[.int .i64 a0] w fun e w' => e = .returned (.string r)∧Below w.heap.size w w':=by
 have HB:=zh (Below.refl w.heap.size w);have H : (if a0≤0 then (some (⟨#[109,48]⟩ : ByteArray)) else (Fl.l0 k a0 (⟨#[]⟩ : ByteArray)))=some r:=h;clear h
 by_cases c2 : a0≤0
 ·
  rw [if_pos c2] at H
  have c2b0 : decide (a0≤0)=true:=decide_eq_true c2;clear c2;obtain rfl:=zU H
  go_enter Try.func40,Try.ntmps40
  go_wp2
  go_ret
  exact ⟨by first|rfl|(simp [yt,yu] <;> rfl)|(simp [*,yt,yu] <;> rfl),by repeat (with_reducible first|exact HB.out|apply za|apply zb|apply zc)⟩
 rw [if_neg c2] at H;have c2b0 : decide (a0≤0)=false:=decide_eq_false c2;clear c2;have H':=zh H;clear H
 go_enter Try.func40,Try.ntmps40
 go_wp2
 go_loopg [0,3] k (fun kq v0 v3 w' => ∃ (x0_1 : Int) (x3_1 : ByteArray),v0 = .int .i64 x0_1∧v3 = .string x3_1∧Aside0 (Fl.l0 kq x0_1 x3_1=some r)∧Aside0 (kq≤k)∧Aside0 (Below w.heap.size w w'))
 case atStart => exact ⟨(a0),((⟨#[]⟩ : ByteArray)),(by first|rfl|(simp;done)|(simp [*];done)),(by first|rfl|(simp;done)|(simp [*];done)),H',⟨ye _⟩,⟨by repeat (with_reducible first|exact HB.out|apply za|apply zb|apply zc)⟩⟩
 case round =>
  clear H'
  try clear c2 c2b0
  try clear p2
  obtain ⟨x0_1,x3_1,rfl,rfl,HA,HK1,HB⟩:=hrel
  cases gk with
  | zero => exact absurd HA.out (by simp [Fl.l0])
  | succ k1 =>
   have H:=HA.out;clear HA;simp only [Fl.l0] at H
   by_cases c3 : x0_1 > 0
   ·
    rw [if_pos c3] at H
    have c3b0 : decide (0<x0_1)=true:=decide_eq_true c3;clear c3;obtain ⟨y309,hy309⟩ : ∃ y_ : List Int,y_=(([(wrap64 (48 + (Int.tmod x0_1 10))) % 256] : List Int)):=⟨_,rfl⟩;replace H : (if (strOfNums y309).size + x3_1.size≤9223372036854775807 then (Fl.l0 k1 (wrap64 (Int.tdiv x0_1 10)) ((strOfNums y309) ++ x3_1)) else (none))=some r:=by first|(rw [hy309];with_reducible exact H)|(have H2_:=(Option.bind_some _ _).symm.trans H;rw [hy309];with_reducible exact H2_)|(have H2_:=(Option.bind_some _ _).symm.trans H;with_reducible exact H2_)|with_reducible exact H|(rw [hy309];exact H)|exact H
    have Ny309:=zh hy309;clear hy309
    by_cases c4 : (strOfNums y309).size + x3_1.size≤9223372036854775807
    ·
     rw [if_pos c4] at H
     have c4b0:=eq_true c4;have c4b1 : decide ((strOfNums y309).size + x3_1.size≤9223372036854775807)=true:=decide_eq_true c4
     try have c4b2 : (9223372036854775807<(strOfNums y309).size + x3_1.size)=False:=eq_false (Nat.not_lt.2 c4)
     have H':=zh H;clear H
     go_wp2_with (first|((with_reducible refine zK (N:=12) rfl ?_);refine Kd.R_lit (Kd.int .u8) _ 5 ?hg (N:=12) ?hd (xs:=([(wrap64 (48 + (Int.tmod x0_1 10))) % 256] : List Int)) (inner:=[.int .u8 ((wrap64 (48 + (Int.tmod x0_1 10))) % 256)]) (ok:=fun _ => True) (okp:=fun _ => True) ?hr ?hp (fun _ hk => hk) trivial (Below.refl _ _) (ye _) (by simp) ?_;(case hd|hg => rfl);(case hr => go_simp <;> rfl);(case hp => exact (Reps.one (show Kd.M (Kd.int .u8) _ _ _ ((wrap64 (48 + (Int.tmod x0_1 10))) % 256) [.int .u8 ((wrap64 (48 + (Int.tmod x0_1 10))) % 256)] from rfl) (Reps.none _ _)));intro v310 w5 ho6 hb hg_ hnew_;clear hg_ hnew_;(first|rw [← Ny309.out] at ho6|(simp only [Int.reduceToNat] at ho6;rw [← Ny309.out] at ho6));have HO311:=zh (yx ho6 (zB (by repeat (with_reducible first|exact HB.out|apply za|apply zb|apply zc))));replace HB:=zh (zC (by repeat (with_reducible first|exact HB.out|apply za|apply zb|apply zc)) hb);clear hb ho6;have hcv7:=own_string (P:=Try.prog) Try.underlying88 Try.underlying5 Try.underlying9 (Kd.own_of_R HO311.out)))
     go_roundg k1
     case measure => have:=HK1.out;omega
     case rel => exact ⟨(wrap64 (Int.tdiv x0_1 10)),((strOfNums y309) ++ x3_1),(by first|rfl|(simp;done)|(simp [*];done)),(by first|rfl|(simp;done)|(simp [*];done)),H',⟨by have:=HK1.out;omega⟩,⟨by repeat (with_reducible first|exact HB.out|apply za|apply zb|apply zc)⟩⟩
    rw [if_neg c4] at H;exact absurd H (by simp)
   rw [if_neg c3] at H;have c3b0 : decide (0<x0_1)=false:=decide_eq_false c3;clear c3
   by_cases c8 : 1 + x3_1.size≤9223372036854775807
   ·
    rw [if_pos c8] at H
    have c8b0:=eq_true c8;have c8b1 : decide (1 + x3_1.size≤9223372036854775807)=true:=decide_eq_true c8
    try have c8b2 : (9223372036854775807<1 + x3_1.size)=False:=eq_false (Nat.not_lt.2 c8)
    obtain rfl:=zU H
    go_wp2
    go_ret
    exact ⟨by first|rfl|(simp [yt,yu] <;> rfl)|(simp [*,yt,yu] <;> rfl),by repeat (with_reducible first|exact HB.out|apply za|apply zb|apply zc)⟩
   rw [if_neg c8] at H;exact absurd H (by simp)


def Fk.l0 : Nat→List (S51)→Int→Int→Option (Int×(List (S51)))
 | 0,_,_,_ => none
 | k + 1,x0,x1,x5 => if x5<(x0.length : Int) then ((Fl.f k x1).bind fun t312 => (if 0≤x5 then ((some (x0.set (x5 : Int).toNat (⟨t312,(rd_T51 x0 x5).f1⟩ : S51) : List (S51))).bind fun y313 => (Fk.l0 k (y313.set (x5 : Int).toNat (⟨(rd_T51 y313 x5).f0,wrap64 (x1 + 1)⟩ : S51)) (wrap64 ((wrap64 (x1 + 1)) + 1)) (wrap64 (x5 + 1)))) else (none))) else (some (x1,x0))
def Fk.f (k : Nat) (l0 : List (S51)) (a1 : Int) : Option (Int×(List (S51))):=Fk.l0 k l0 a1 0
theorem Fk.mono_l : ∀ k,(∀ y0 y1 y2,LeO (Fk.l0 k y0 y1 y2) (Fk.l0 (k + 1) y0 y1 y2))
 | 0 => fun _ _ _ r h => by simp [Fk.l0] at h
 | k + 1 => by
  have ih0:=Fk.mono_l k;intro y0 y1 y2;unfold Fk.l0
  repeat' first|(with_reducible first|exact ih0 _ _ _|exact Fl.mono _ _|exact zQ _|exact zN _|refine zP ?_ ?_|refine zO ?_ (fun _ => ?_))|refine zP ?_ ?_|refine zO ?_ (fun _ => ?_)
theorem Fk.mono : ∀ a0 a1 k,LeO (Fk.f k a0 a1) (Fk.f (k + 1) a0 a1):=by
 intro a0 a1 k;have ih0:=Fk.mono_l k;unfold Fk.f
 repeat' first|(with_reducible first|exact ih0 _ _ _|exact Fl.mono _ _|exact zQ _|exact zN _|refine zP ?_ ?_|refine zO ?_ (fun _ => ?_))|refine zP ?_ ?_|refine zO ?_ (fun _ => ?_)
set_option maxHeartbeats 8000000 in
set_option maxRecDepth 100000 in
theorem Fk.calls (k : Nat) (P0_ : Nat→Prop) (u9000_ : Value) (l0 : List (S51)) (a1 : Int) (r1 : Int) (r2 : List (S51)) (w0 w : World) (hB : Below w0.heap.size w0 w) (ho0 : Kd.R k51 51 w w0.heap.size P0_ u9000_ l0) (h : Fk.f k l0 a1=some (r1,r2)) :
  Calls Try.prog 16 #[u9000_,.int .i64 a1] w fun e w' => e = .returned (.int .i64 r1)∧Kd.R k51 51 w' w0.heap.size (fun k_ => (P0_ k_∨w.heap.size≤k_)) u9000_ r2∧Below w0.heap.size w0 w' ∧ Kept w w' (fun k_ => P0_ k_):=by
 have HO0:=zh (show Kd.R k51 51 w w0.heap.size (fun k_ => (P0_ k_∨w.heap.size≤k_)) u9000_ l0 from zM ho0 (fun k_ hk => (.inl hk)));have HK:=zh (Kept.refl w (fun k_ => P0_ k_));have HW0:=zh hB.size;have HB:=zh hB;clear hB;have H : (Fk.l0 k l0 a1 0)=some (r1,r2):=h;clear h;have H':=zh H;clear H
 go_enter Try.func16,Try.ntmps16
 go_wp2
 go_loopg [1,5] k (fun kq v1 v5 w' => ∃ (x0_1 : List (S51)) (x1_1 : Int) (x5_1 : Int),v1 = .int .i64 x1_1∧v5 = .int .i64 x5_1∧Aside0 (Fk.l0 kq x0_1 x1_1 x5_1=some (r1,r2))∧Aside0 (kq≤k)∧Aside0 (Kd.R k51 51 w' w0.heap.size (fun k_ => (P0_ k_∨w.heap.size≤k_)) u9000_ x0_1)∧Aside0 (Kept w w' (fun k_ => P0_ k_))∧Aside0 (Below w0.heap.size w0 w'))
 case atStart => exact ⟨(l0),(a1),(0),(by first|rfl|(simp;done)|(simp [*];done)),(by first|rfl|(simp;done)|(simp [*];done)),H',⟨ye _⟩,⟨by (with_reducible repeat (first|apply zm|apply zn|apply zo));exact HO0.out⟩,⟨by repeat (with_reducible first|exact HK.out|apply zr|apply zp|apply zq)⟩,⟨by repeat (with_reducible first|exact HB.out|apply za|apply zb|apply zc)⟩⟩
 case round =>
  clear H'
  try clear c1
  try clear p2
  obtain ⟨x0_1,x1_1,x5_1,rfl,rfl,HA,HK1,HO_0,HK,HB⟩:=hrel
  cases gk with
  | zero => exact absurd HA.out (by simp [Fk.l0])
  | succ k1 =>
   have H:=HA.out;clear HA;simp only [Fk.l0] at H
   by_cases c3 : x5_1<(x0_1.length : Int)
   ·
    rw [if_pos c3] at H
    have c3b0 : decide (x5_1<(x0_1.length : Int))=true:=decide_eq_true c3;clear c3;replace H:=zT.mp H;obtain ⟨t312,A40,H⟩:=H;replace H : (if 0≤x5_1 then ((some (x0_1.set (x5_1 : Int).toNat (⟨t312,(rd_T51 x0_1 x5_1).f1⟩ : S51) : List (S51))).bind fun y313 => (Fk.l0 k1 (y313.set (x5_1 : Int).toNat (⟨(rd_T51 y313 x5_1).f0,wrap64 (x1_1 + 1)⟩ : S51)) (wrap64 ((wrap64 (x1_1 + 1)) + 1)) (wrap64 (x5_1 + 1)))) else (none))=some (r1,r2):=H;have A4:=zh A40;clear A40
    by_cases c5 : 0≤x5_1
    ·
     rw [if_pos c5] at H
     have c5b0 : decide (0≤x5_1)=true:=decide_eq_true c5;clear c5;obtain ⟨y313,hy313⟩ : ∃ y_ : List (S51),y_=(x0_1.set (x5_1 : Int).toNat (⟨t312,(rd_T51 x0_1 x5_1).f1⟩ : S51)):=⟨_,rfl⟩;replace H : (Fk.l0 k1 (y313.set (x5_1 : Int).toNat (⟨(rd_T51 y313 x5_1).f0,wrap64 (x1_1 + 1)⟩ : S51)) (wrap64 ((wrap64 (x1_1 + 1)) + 1)) (wrap64 (x5_1 + 1)))=some (r1,r2):=by first|(rw [hy313];with_reducible exact H)|(have H2_:=(Option.bind_some _ _).symm.trans H;rw [hy313];with_reducible exact H2_)|(have H2_:=(Option.bind_some _ _).symm.trans H;with_reducible exact H2_)|with_reducible exact H|(rw [hy313];exact H)|exact H
     have Ny313:=zh hy313;clear hy313;obtain ⟨y314,hy314⟩ : ∃ y_ : List (S51),y_=(y313.set (x5_1 : Int).toNat (⟨(rd_T51 y313 x5_1).f0,wrap64 (x1_1 + 1)⟩ : S51)):=⟨_,rfl⟩;replace H : (Fk.l0 k1 y314 (wrap64 ((wrap64 (x1_1 + 1)) + 1)) (wrap64 (x5_1 + 1)))=some (r1,r2):=by first|(rw [hy314];with_reducible exact H)|(have H2_:=(Option.bind_some _ _).symm.trans H;rw [hy314];with_reducible exact H2_)|(have H2_:=(Option.bind_some _ _).symm.trans H;with_reducible exact H2_)|with_reducible exact H|(rw [hy314];exact H)|exact H
     have Ny314:=zh hy314;clear hy314;have H':=zh H;clear H;obtain ⟨Ao8,co8,eo8⟩:=yk HO_0.out;subst eo8
     go_wp2_with (first|((with_reducible refine zJ (f:=40) rfl ?_);refine yj (some 15) rfl rfl Try.func40 (by kernel_rfl) rfl #[.int .i64 x1_1] rfl (by (try simp only [zt,zu,zv]);first|done|rfl|(simp only [zw,zx];rfl)|(simp only [yr,ys,zV,zW];rfl)) ?_;(with_reducible refine (Fl.calls k1  x1_1 t312 _ A4.out).mono ?_);rintro e w9 ⟨rfl,hb⟩;refine ⟨_,rfl,?_⟩;replace HO_0:=zh (yg (by (with_reducible repeat (first|apply zm|apply zn|apply zo));exact HO_0.out) hb);replace HK:=zh (Kept.below (S:=(fun k_ => P0_ k_)) (by repeat (with_reducible first|exact HK.out|apply zr|apply zp|apply zq)) hb);replace HB:=zh (zC (by repeat (with_reducible first|exact HB.out|apply za|apply zb|apply zc)) hb);(try clear hb);(try clear hb2);(try clear hk);(try clear hi);have p6 : 0≤(x5_1 : Int):=zy (by first|(with_reducible assumption)|assumption);have q6 : (x5_1 : Int)<((x0_1.length : Int) : Int):=zy (by first|(with_reducible assumption)|assumption);obtain ⟨go6,co6,eo6,gb6,gl6,cl6,HG6⟩:=Kd.R_form HO_0.out (by omega);(first|cases eo6|(injection eo6 with ea_ en_ ec_;(first|subst ea_|(injection ea_ with ea_;subst ea_));subst ec_;clear en_));have GB6:=zh gb6;have GG6:=zh HG6;clear gb6 gl6 HG6;have HMgo6:=zh (show (P0_ go6∨w.heap.size≤go6) from (HO_0.out.1 _ rfl));obtain ⟨ce6,hcl6,hM6,hcc6,hfr6⟩:=Kd.R_elem HO_0.out z51 (x5_1 : Int) p6 q6;obtain rfl:=k51_openM hM6;have hx6_0 : w9.cell? ⟨go6,(x5_1 : Int).toNat * 2,none⟩=some (.string ((rd_T51 x0_1 x5_1).f0)):=hcc6 0 _ rfl;have hx6_1 : w9.cell? ⟨go6,(x5_1 : Int).toNat * 2 + 1,none⟩=some (.int .i64 ((rd_T51 x0_1 x5_1).f1)):=hcc6 1 _ rfl;have hf6_0 : w9.frozen? ⟨go6,(x5_1 : Int).toNat * 2,none⟩=false:=hfr6 0;have hf6_1 : w9.frozen? ⟨go6,(x5_1 : Int).toNat * 2 + 1,none⟩=false:=hfr6 1;clear hcl6 hcc6 hfr6 hM6;replace p6:=eq_true p6;replace q6:=eq_true q6;have HX10:=zh (show Kd.R k51 51 w9 w0.heap.size (fun k_ => (P0_ k_∨w.heap.size≤k_)) (.slice (some ⟨go6,0,none⟩) x0_1.length co8) x0_1 from (by (with_reducible repeat (first|apply zm|apply zn|apply zo));exact HO_0.out));obtain ⟨ce10,hcl10,hM10,hcc10,hfr10⟩:=Kd.R_elem HX10.out z51 (x5_1 : Int) (zy (by first|(with_reducible assumption)|assumption)) (by have h_ : (x5_1 : Int)<((x0_1.length : Int) : Int):=zy (by first|(with_reducible assumption)|assumption);first|exact h_|(have e_:=(yh HO_0.out).1;omega)|simpa using h_);obtain rfl:=k51_openM hM10;have HP10:=Kd.R_seg HX10.out (x5_1 : Int) (zy (by first|(with_reducible assumption)|assumption)) (by have h_ : (x5_1 : Int)<((x0_1.length : Int) : Int):=zy (by first|(with_reducible assumption)|assumption);first|exact h_|(have e_:=(yh HO_0.out).1;omega)|simpa using h_) (seg:=[.string t312]) (j:=0) hcl10 hcc10 (show 1≤2 from by decide) (x':=(⟨t312,(rd_T51 x0_1 x5_1).f1⟩ : S51)) (k51_mkM _ _ _ (⟨t312,(rd_T51 x0_1 x5_1).f1⟩ : S51) ) (fun _ hk => hk);have hx10_0:=hcc10 0 _ rfl;(try simp only [show (k51).sz=2 from rfl,Nat.mul_one,Nat.add_zero] at hx10_0);have hf10_0:=hfr10 0;(try simp only [show (k51).sz=2 from rfl,Nat.mul_one,Nat.add_zero] at hf10_0);clear hcl10 hcc10 hfr10 hM10)|((with_reducible refine gate_store (t:=9) (p:=17) rfl ?_);refine store_event (t:=9) (p:=17) (v:=?vo_w11) (w1:=(w9.setCell ⟨go6,(x5_1 : Int).toNat * 2,none⟩ (.string t312))) ?hg ?ho ?hn ?hr ?_;(case ho => rfl);(case hg => rfl);(case hn => rfl);(case hr => go_simp <;> rfl);intro w11 hw;have hg : w9.grownBy w11 (some go6):=(by rw [hw];exact HP10.2);have hp_ : Kd.R k51 51 w11 w0.heap.size (fun k_ => (P0_ k_∨w.heap.size≤k_)) (.slice (some ⟨go6,0,none⟩) x0_1.length co8) y313:=(by rw [hw,Ny313.out];exact HP10.1);clear HP10;replace HB:=zh ((by rw [hw];exact zd (HB.out) GB6.out : Below w0.heap.size w0 w11));replace HK:=zh (yz (S:=(fun k_ => P0_ k_)) hg (by repeat (with_reducible first|exact HK.out|apply zr|apply zp|apply zq)) (fun k_ e_ => (HO_0.out.1 k_ e_)));replace HO_0:=zh (hp_);clear hg hw hp_;have p7 : 0≤(x5_1 : Int):=zy (by first|(with_reducible assumption)|assumption);have q7 : (x5_1 : Int)<((x0_1.length : Int) : Int):=zy (by first|(with_reducible assumption)|assumption);obtain ⟨ce7,hcl7,hM7,hcc7,hfr7⟩:=Kd.R_elem HO_0.out z51 (x5_1 : Int) p7 q7;obtain rfl:=k51_openM hM7;have hx7_0 : w11.cell? ⟨go6,(x5_1 : Int).toNat * 2,none⟩=some (.string ((rd_T51 y313 x5_1).f0)):=hcc7 0 _ rfl;have hx7_1 : w11.cell? ⟨go6,(x5_1 : Int).toNat * 2 + 1,none⟩=some (.int .i64 ((rd_T51 y313 x5_1).f1)):=hcc7 1 _ rfl;have hf7_0 : w11.frozen? ⟨go6,(x5_1 : Int).toNat * 2,none⟩=false:=hfr7 0;have hf7_1 : w11.frozen? ⟨go6,(x5_1 : Int).toNat * 2 + 1,none⟩=false:=hfr7 1;clear hcl7 hcc7 hfr7 hM7;replace p7:=eq_true p7;replace q7:=eq_true q7;have HX12:=zh (show Kd.R k51 51 w11 w0.heap.size (fun k_ => (P0_ k_∨w.heap.size≤k_)) (.slice (some ⟨go6,0,none⟩) x0_1.length co8) y313 from (by (with_reducible repeat (first|apply zm|apply zn|apply zo));exact HO_0.out));obtain ⟨ce12,hcl12,hM12,hcc12,hfr12⟩:=Kd.R_elem HX12.out z51 (x5_1 : Int) (zy (by first|(with_reducible assumption)|assumption)) (by have h_ : (x5_1 : Int)<((x0_1.length : Int) : Int):=zy (by first|(with_reducible assumption)|assumption);first|exact h_|(have e_:=(yh HO_0.out).1;omega)|simpa using h_);obtain rfl:=k51_openM hM12;have HP12:=Kd.R_seg HX12.out (x5_1 : Int) (zy (by first|(with_reducible assumption)|assumption)) (by have h_ : (x5_1 : Int)<((x0_1.length : Int) : Int):=zy (by first|(with_reducible assumption)|assumption);first|exact h_|(have e_:=(yh HO_0.out).1;omega)|simpa using h_) (seg:=[.int .i64 (wrap64 (x1_1 + 1))]) (j:=1) hcl12 hcc12 (show 2≤2 from by decide) (x':=(⟨(rd_T51 y313 x5_1).f0,wrap64 (x1_1 + 1)⟩ : S51)) (k51_mkM _ _ _ (⟨(rd_T51 y313 x5_1).f0,wrap64 (x1_1 + 1)⟩ : S51) ) (fun _ hk => hk);have hx12_1:=hcc12 1 _ rfl;(try simp only [show (k51).sz=2 from rfl,Nat.mul_one,Nat.add_zero] at hx12_1);have hf12_1:=hfr12 1;(try simp only [show (k51).sz=2 from rfl,Nat.mul_one,Nat.add_zero] at hf12_1);clear hcl12 hcc12 hfr12 hM12)|((with_reducible refine gate_store (t:=3) (p:=24) rfl ?_);refine store_event (t:=3) (p:=24) (v:=?vo_w13) (w1:=(w11.setCell ⟨go6,(x5_1 : Int).toNat * 2 + 1,none⟩ (.int .i64 (wrap64 (x1_1 + 1))))) ?hg ?ho ?hn ?hr ?_;(case ho => rfl);(case hg => rfl);(case hn => rfl);(case hr => go_simp <;> rfl);intro w13 hw;have hg : w11.grownBy w13 (some go6):=(by rw [hw];exact HP12.2);have hp_ : Kd.R k51 51 w13 w0.heap.size (fun k_ => (P0_ k_∨w.heap.size≤k_)) (.slice (some ⟨go6,0,none⟩) x0_1.length co8) y314:=(by rw [hw,Ny314.out];exact HP12.1);clear HP12;replace HB:=zh ((by rw [hw];exact zd (HB.out) GB6.out : Below w0.heap.size w0 w13));replace HK:=zh (yz (S:=(fun k_ => P0_ k_)) hg (by repeat (with_reducible first|exact HK.out|apply zr|apply zp|apply zq)) (fun k_ e_ => (HO_0.out.1 k_ e_)));replace HO_0:=zh (hp_);clear hg hw hp_))
     go_roundg k1
     case measure => have:=HK1.out;omega
     case rel => exact ⟨(y314),(wrap64 ((wrap64 (x1_1 + 1)) + 1)),(wrap64 (x5_1 + 1)),(by first|rfl|(simp;done)|(simp [*];done)),(by first|rfl|(simp;done)|(simp [*];done)),H',⟨by have:=HK1.out;omega⟩,⟨by (with_reducible repeat (first|apply zm|apply zn|apply zo));exact HO_0.out⟩,⟨by repeat (with_reducible first|exact HK.out|apply zr|apply zp|apply zq)⟩,⟨by repeat (with_reducible first|exact HB.out|apply za|apply zb|apply zc)⟩⟩
    rw [if_neg c5] at H;exact absurd H (by simp)
   rw [if_neg c3] at H;have c3b0 : decide (x5_1<(x0_1.length : Int))=false:=decide_eq_false c3;clear c3;simp only [Option.some.injEq,Prod.mk.injEq] at H;obtain ⟨rfl,rfl⟩:=H;obtain ⟨Ao14,co14,eo14⟩:=yk HO_0.out;subst eo14
   go_wp2
   go_ret
   exact ⟨by first|rfl|(simp [yt,yu] <;> rfl)|(simp [*,yt,yu] <;> rfl),by (with_reducible repeat (first|apply zm|apply zn|apply zo));exact HO_0.out,by repeat (with_reducible first|exact HB.out|apply za|apply zb|apply zc),by repeat (with_reducible first|exact HK.out|apply zr|apply zp|apply zq)⟩


def F03.g (k : Nat) : List S67→Int→Option (Int×List S67)
 | [],a => some (a,[])
 | p :: ps,a => (Fk.f k p.f1 (wrap64 (a + 1))).bind fun t => (F03.g k ps t.1).bind fun u => some (u.1,(⟨a,t.2⟩ : S67) :: u.2)
theorem F03.n_step {q i n : Nat} (h : q + 1 + i=n) : q + (i + 1)=n:=by omega
theorem F03.w_next (i : Nat) (h : i≤4611686018427387904) : wrap64 ((i : Int) + 1)=((i + 1 : Nat) : Int):=by unfold wrap64;omega
set_option maxHeartbeats 4000000 in
set_option maxRecDepth 100000 in
theorem F03.calls (k : Nat) (P0_ : Nat→Prop) (u9000_ : Value) (l0 : List (S67)) (a1 : Int) (r1 : Int) (r2 : List (S67)) (w0 w : World) (hB : Below w0.heap.size w0 w) (ho0 : Kd.S k67 67 w w0.heap.size P0_ u9000_ l0) (hlen : l0.length≤4611686018427387904) (h : F03.g k l0 a1=some (r1,r2)) :
  Calls Try.prog 39 #[u9000_,.int .i64 a1] w fun e w' => e = .returned (.int .i64 r1)∧Below w0.heap.size w0 w' ∧ Kept w w' (fun k_ => P0_ k_):=by
 have HO0:=zh (show Kd.S k67 67 w w0.heap.size (fun k_ => (P0_ k_∨w.heap.size≤k_)) u9000_ l0 from Kd.S_mono ho0 (fun k_ hk => (.inl hk)));have HK:=zh (Kept.refl w (fun k_ => P0_ k_));have HB:=zh hB;have hW0:=hB.size;clear hB;obtain ⟨A,c,rfl⟩:=Kd.S_slice ho0
 go_enter Try.func39,Try.ntmps39
 go_wp2
 go_loopg [1,5] l0.length (fun kq v1 v5 w' => ∃ (i : Nat) (x : Int) (L : List S67) (t : List S67),v1 = .int .i64 x∧v5 = .int .i64 (i : Int)∧Aside0 (kq + i=l0.length)∧Aside0 (L.length=l0.length∧L.drop i=l0.drop i)∧Aside0 (F03.g k (l0.drop i) x=some (r1,t))∧Aside0 (Kd.S k67 67 w' w0.heap.size (fun k_ => (P0_ k_∨w.heap.size≤k_)) (.slice A l0.length c) L)∧Aside0 (Kept w w' (fun k_ => P0_ k_))∧Aside0 (Below w0.heap.size w0 w'))
 case atStart => exact ⟨0,a1,l0,r2,rfl,rfl,⟨by omega⟩,⟨rfl,rfl⟩,⟨by rw [List.drop_zero];exact h⟩,HO0,HK,HB⟩
 case round =>
  obtain ⟨i,x,L,t,rfl,rfl,HI,HL,HF,HO,HK,HB⟩:=hrel;obtain ⟨hLl,hLd⟩:=HL.out
  by_cases hil : i<l0.length
  ·
   have c3 : decide ((i : Int)<(l0.length : Int))=true:=decide_eq_true (Int.ofNat_lt.2 hil)
   obtain ⟨g,co,eo,gb,gl,cl,HGc⟩:=Kd.S_form HO.out (by rw [hLl];exact Nat.lt_of_le_of_lt (Nat.zero_le _) hil);rw [hLl] at eo;injection eo with ea _ ec;subst ea;subst ec;have hF:=HF.out;rw [List.drop_eq_getElem_cons hil] at hF;simp only [F03.g] at hF;obtain ⟨⟨m1,E1⟩,hm,hF⟩:=zT.mp hF;obtain ⟨⟨m2,t2⟩,hF2,hF⟩:=zT.mp hF;simp only [Option.some.injEq,Prod.mk.injEq] at hF;obtain ⟨rfl,rfl⟩:=hF;obtain ⟨oki,ce,hcl,hM,hcc,hfr,hoki,hH⟩:=Kd.S_elem HO.out z67 (i : Int) (Int.natCast_nonneg i) (Int.ofNat_lt.2 hil)
   have eg : L.getD (i : Int).toNat z67=l0[i]:=by
    have h9:=congrArg (·[0]?) hLd;simp only [List.getElem?_drop,Nat.add_zero] at h9;rw [Int.toNat_natCast,List.getD_eq_getElem?_getD,h9,List.getElem?_eq_getElem hil];rfl
   rw [eg] at hM;obtain ⟨ve,rfl,hRe⟩:=k67_openM hM;have hm0 : wr.cell? ⟨g,i * 2,none⟩=some (.int .i64 l0[i].f0):=hcc 0 _ rfl;have hm1 : wr.cell? ⟨g,i * 2 + 1,none⟩=some ve:=hcc 1 _ rfl;have hn0 : wr.frozen? ⟨g,i * 2,none⟩=false:=hfr 0;have hi0 : (0≤(i : Int))=True:=eq_true (Int.natCast_nonneg i);have hilt : ((i : Int)<(l0.length : Int))=True:=eq_true (Int.ofNat_lt.2 hil);have hwi:=F03.w_next i (Nat.le_trans (Nat.le_of_lt hil) hlen);obtain ⟨kq,rfl⟩ : ∃ q,gk=q + 1:=⟨gk - 1,by have:=HI.out;omega⟩;have hkj:=HI.out
   obtain ⟨hH1,hG1⟩ : Kd.H k67 67 (wr.setCell ⟨g,i * 2,none⟩ (.int .i64 x)) w0.heap.size (fun k_ => (P0_ k_∨w.heap.size≤k_)) (.slice (some ⟨g,0,none⟩) l0.length c) L (i : Int) oki [.int .i64 x,ve]∧wr.grownBy (wr.setCell ⟨g,i * 2,none⟩ (.int .i64 x)) (some g) :=
    Kd.H_seg hH (Int.natCast_nonneg i) (Int.ofNat_lt.2 hil) (seg:=[.int .i64 x]) (j:=0) (show 0 + 1≤2 from by decide) (by simp [Value.oneCell'])
   have hR1:=Kd.R_grown hRe hG1 (fun k hk he => (hoki k hk).2 (by injection he))
   have hcv : (wr.setCell ⟨g,i * 2,none⟩ (.int .i64 x)).cell? ⟨g,i * 2 + 1,none⟩=some ve:=by
    rw [World.cell?_setCell_other _ _ _ _ (by simp)];exact hm1
   have HH1:=zh (Kd.H_widen hH1);have HB1:=zh (pw_below_grown HB.out (some g) (Nat.le_trans gb (Nat.le_of_lt gl)) hG1 (fun k hk => by injection hk with hk;subst hk;exact gb));have hPg : P0_ g∨w.heap.size≤g:=(Kd.S_R HO.out).1 g rfl;have HK1:=zh (yz hG1 HK.out (fun k hk => by injection hk with hk;subst hk;exact hPg));have HE:=zh (show L.length=l0.length from hLl);have HD:=zh (show L.drop (i + 1)=l0.drop (i + 1) by have:=congrArg List.tail hLd;simpa [List.tail_drop] using this);have HOK:=zh hoki;clear hH hH1 hG1 hRe hcc hcl hM HB HK hLd hLl hfr eg
   go_wp2_with fail
   go_at_call 16
   refine (Fk.calls k oki ve _ (wrap64 (x + 1)) m1 E1 w0 _ HB1.out hR1 hm).mono ?_;rintro e w2 ⟨rfl,hR2,hB2,hK2⟩;have HK2:=zh (HK1.out.then_ hK2 (fun k hk => (HOK.out k hk).1))
   have HS2:=zh (Kd.H_back (Kd.H_kept HH1.out hK2 (fun k _ hn hk => hn (.inl hk))) (x':=(⟨x,E1⟩ : S67)) (k67_mkM _ _ _ ⟨x,E1⟩ hR2) (fun k hk => by
    rcases hk with hk|hk
    ·
     exact .inl hk
    refine .inr ⟨.inr (Nat.le_trans HK1.out.1 hk),hk⟩))
   have HB2:=zh hB2;clear hR1 hR2 hK2 hB2 HH1
   go_wp2_with fail
   go_roundg kq
   case measure => exact Nat.lt_succ_self _
   case rel =>
    refine ⟨i + 1,m1,L.set i ⟨x,E1⟩,t2,rfl,by first|rfl|rw [hwi],⟨F03.n_step hkj⟩,⟨by rw [List.length_set];exact HE.out,?_⟩,⟨hF2⟩,HS2,HK2,HB2⟩;rw [List.drop_set_of_lt (Nat.lt_succ_self i)];exact HD.out
  have c3 : decide ((i : Int)<(l0.length : Int))=false:=decide_eq_false (fun h9 => hil (Int.ofNat_lt.1 h9));have hF:=HF.out;rw [List.drop_of_length_le (Nat.le_of_not_lt hil)] at hF;simp only [F03.g,Option.some.injEq,Prod.mk.injEq] at hF;obtain ⟨rfl,rfl⟩:=hF
  go_wp2_with fail
  go_ret
  exact ⟨rfl,HB.out,HK.out⟩
theorem Fq.marks (k : Nat) (P0_ : Nat→Prop) (u9000_ : Value) (l0 : List (S67)) (n : Int) (a1 : Int) (r1 : Int) (r2 : List (S67)) (w0 w : World) (hB : Below w0.heap.size w0 w) (ho0 : Kd.S k67 67 w w0.heap.size P0_ u9000_ l0) (hlen : l0.length≤4611686018427387904) (h : F03.g k l0 a1=some (r1,r2)) :
  Calls Try.prog 15 #[.agg #[u9000_,.int .i64 n],.int .i64 a1] w fun e w' => e = .returned (.int .i64 r1)∧Below w0.heap.size w0 w' ∧ Kept w w' (fun k_ => P0_ k_):=by
 have hu35:=Try.underlying35;obtain ⟨A,c,rfl⟩:=Kd.S_slice ho0;have hS:=Kd.S_mono (ok':=fun k_ => P0_ k_∧k_<w.heap.size) (Kd.S_bound ho0) (fun k_ hk => ⟨hk.1,hk.2.2.1⟩)
 go_enter Try.func15,Try.ntmps15
 go_wp2_with fail
 go_at_call 39
 refine (F03.calls k (fun k_ => P0_ k_∧k_<w.heap.size) _ l0 a1 r1 r2 w0 _ (za hB _) (Kd.S_alloc hS _) hlen h).mono ?_;rintro e w1 ⟨rfl,hB1,hK1⟩;have hKw : Kept w w1 (fun k_ => P0_ k_):=((Kept.refl w _).alloc _).then_ hK1 (fun k_ hk => .inl hk.1)
 go_wp2_with fail
 go_ret
 exact ⟨rfl,hB1,hKw⟩
def Fq.f (k : Nat) (l0_0 : List (S67)) (a0_1 : Int) (a1 : Int) : Option Int:=if l0_0.length≤4611686018427387904 then ((F03.g k l0_0 a1).bind fun t => some t.1) else none
theorem F03.g_mono : ∀ (l : List S67) (a : Int) (k : Nat),LeO (F03.g k l a) (F03.g (k + 1) l a)
 | [],a,k => zQ _
 | p :: ps,a,k => by
  simp only [F03.g];refine zO (Fk.mono _ _ _) (fun t => ?_);exact zO (F03.g_mono ps t.1 k) (fun _ => zQ _)
theorem Fq.mono : ∀ a0 a1 a2 k,LeO (Fq.f k a0 a1 a2) (Fq.f (k + 1) a0 a1 a2):=by
 intro a0 a1 a2 k;unfold Fq.f;exact zP (zO (F03.g_mono _ _ _) (fun _ => zQ _)) (zN _)
def Fq.Moved (W w' : World) (ok : Nat→Prop) : Prop:=Kept W w' (fun k => ok k ∧ ∃ q,(q=67∨q=51) ∧ ∃ cells,W.heap[k]? = some (.cells cells q (0,0)))
theorem Fq.step (k : Nat) (ok : Nat→Prop) (A : Option Addr) (c : Nat) (l0 : List (S67)) (n : Int) (a1 : Int) (r : Int) (w W : World) (hB : Below w.heap.size w W) (ho0 : Kd.S k67 67 W w.heap.size ok (.slice A l0.length c) l0) (h : Fq.f k l0 n a1=some r) :
  Calls Try.prog 15 #[.agg #[.slice A l0.length c,.int .i64 n],.int .i64 a1] W fun e w' => e = .returned (.int .i64 r)∧Below w.heap.size w w' ∧ Fq.Moved W w' ok:=by
 unfold Fq.f at h
 by_cases hl : l0.length≤4611686018427387904
 ·
  rw [if_pos hl] at h
  obtain ⟨⟨t,T⟩,hg,h⟩:=zT.mp h;obtain rfl:=zU h;refine (Fq.marks k _ _ l0 n a1 t T w W hB (Kd.S_bound ho0) hl hg).mono ?_;rintro e w' ⟨rfl,h1,h2⟩;refine ⟨rfl,h1,h2.mono (fun k hk => ⟨hk.1,?_⟩)⟩;obtain ⟨_,_,_,q,hq,hc⟩:=hk;refine ⟨q,?_,hc⟩;have hq' : q ∈ [67,51]:=hq
  simpa using hq'
 rw [if_neg hl] at h;exact absurd h (by simp)
theorem Fq.moved_blk {W w' : World} {ok : Nat→Prop} (hm : Fq.Moved W w' ok) {g t : Nat} {cs : Array Value} (h : W.heap[g]? = some (.cells cs t (0,0))) (h1 : t≠67) (h2 : t≠51) : w'.heap[g]? = some (.cells cs t (0,0)) :=
 blk_kept h hm (fun hk => by
  obtain ⟨_,q,hq,cells,hc⟩:=hk;rw [h] at hc;injection hc with hc;injection hc with _ hc;rcases hq with rfl|rfl
  ·
   exact h1 hc
  exact h2 hc)
theorem Fq.moved_row {α : Type} {d : Kd α} {e b : Nat} {ok' : Nat→Prop} {v : Value} {xs : List α} {W w' : World} {ok : Nat→Prop} (hm : Fq.Moved W w' ok) (hE : d.E=[]) (h : d.R e W b ok' v xs) (hne : (∀ k,ok k→some k≠v.ownBlock)∨(e≠67∧e≠51)) : d.R e w' b ok' v xs:=by
 have h1:=Kd.R_tight hE h;have h0:=h.1;refine zM (Kd.R_kept h1 hm (fun k hk hs => ?_)) (fun k hk => h0 k hk.symm);rcases hne with hne|⟨h5,h6⟩
 ·
  exact hne k hs.1 hk
 obtain ⟨_,q,hq,cells,hc⟩:=hs;obtain ⟨cells2,hc2⟩:=Kd.R_typed h k hk.symm;rw [hc2] at hc;injection hc with hc;injection hc with _ hc;rcases hq with rfl|rfl
 ·
  exact h5 hc
 exact h6 hc


def Fo.l0 : Nat→List Int→Int→Int→Option (Int×List Int)
 | 0,_,_,_ => none
 | k + 1,x0,x1,x5 => if x5<(x0.length : Int) then (if 0≤x5 then (Fo.l0 k (x0.set (x5 : Int).toNat x1) (wrap64 (x1 + 1)) (wrap64 (x5 + 1))) else (none)) else (some (x1,x0))
def Fo.f (k : Nat) (l0 : List Int) (a1 : Int) : Option (Int×List Int):=Fo.l0 k l0 a1 0
theorem Fo.mono_l : ∀ k,(∀ y0 y1 y2,LeO (Fo.l0 k y0 y1 y2) (Fo.l0 (k + 1) y0 y1 y2))
 | 0 => fun _ _ _ r h => by simp [Fo.l0] at h
 | k + 1 => by
  have ih0:=Fo.mono_l k;intro y0 y1 y2;unfold Fo.l0
  repeat' first|(with_reducible first|exact ih0 _ _ _|exact zQ _|exact zN _|refine zP ?_ ?_|refine zO ?_ (fun _ => ?_))|refine zP ?_ ?_|refine zO ?_ (fun _ => ?_)
theorem Fo.mono : ∀ a0 a1 k,LeO (Fo.f k a0 a1) (Fo.f (k + 1) a0 a1):=by
 intro a0 a1 k;have ih0:=Fo.mono_l k;unfold Fo.f
 repeat' first|(with_reducible first|exact ih0 _ _ _|exact zQ _|exact zN _|refine zP ?_ ?_|refine zO ?_ (fun _ => ?_))|refine zP ?_ ?_|refine zO ?_ (fun _ => ?_)
set_option maxHeartbeats 8000000 in
set_option maxRecDepth 100000 in
theorem Fo.calls (k : Nat) (P0_ : Nat→Prop) (u9000_ : Value) (l0 : List Int) (a1 : Int) (r1 : Int) (r2 : List Int) (w0 w : World) (hB : Below w0.heap.size w0 w) (ho0 : Kd.R (Kd.int .i64) 3 w w0.heap.size P0_ u9000_ l0) (h : Fo.f k l0 a1=some (r1,r2)) :
  Calls Try.prog 17 #[u9000_,.int .i64 a1] w fun e w' => e = .returned (.int .i64 r1)∧Kd.R (Kd.int .i64) 3 w' w0.heap.size (fun k_ => (P0_ k_∨w.heap.size≤k_)) u9000_ r2∧Below w0.heap.size w0 w' ∧ Kept w w' (fun k_ => P0_ k_):=by
 have HO0:=zh (show Kd.R (Kd.int .i64) 3 w w0.heap.size (fun k_ => (P0_ k_∨w.heap.size≤k_)) u9000_ l0 from zM ho0 (fun k_ hk => (.inl hk)));have HK:=zh (Kept.refl w (fun k_ => P0_ k_));have HW0:=zh hB.size;have HB:=zh hB;clear hB;have H : (Fo.l0 k l0 a1 0)=some (r1,r2):=h;clear h;have H':=zh H;clear H
 go_enter Try.func17,Try.ntmps17
 go_wp2
 go_loopg [1,5] k (fun kq v1 v5 w' => ∃ (x0_1 : List Int) (x1_1 : Int) (x5_1 : Int),v1 = .int .i64 x1_1∧v5 = .int .i64 x5_1∧Aside0 (Fo.l0 kq x0_1 x1_1 x5_1=some (r1,r2))∧Aside0 (kq≤k)∧Aside0 (Kd.R (Kd.int .i64) 3 w' w0.heap.size (fun k_ => (P0_ k_∨w.heap.size≤k_)) u9000_ x0_1)∧Aside0 (Kept w w' (fun k_ => P0_ k_))∧Aside0 (Below w0.heap.size w0 w'))
 case atStart => exact ⟨(l0),(a1),(0),(by first|rfl|(simp;done)|(simp [*];done)),(by first|rfl|(simp;done)|(simp [*];done)),H',⟨ye _⟩,⟨by (with_reducible repeat (first|apply zm|apply zn|apply zo));exact HO0.out⟩,⟨by repeat (with_reducible first|exact HK.out|apply zr|apply zp|apply zq)⟩,⟨by repeat (with_reducible first|exact HB.out|apply za|apply zb|apply zc)⟩⟩
 case round =>
  clear H'
  try clear c1
  try clear p2
  obtain ⟨x0_1,x1_1,x5_1,rfl,rfl,HA,HK1,HO_0,HK,HB⟩:=hrel
  cases gk with
  | zero => exact absurd HA.out (by simp [Fo.l0])
  | succ k1 =>
   have H:=HA.out;clear HA;simp only [Fo.l0] at H
   by_cases c3 : x5_1<(x0_1.length : Int)
   ·
    rw [if_pos c3] at H
    have c3b0 : decide (x5_1<(x0_1.length : Int))=true:=decide_eq_true c3;clear c3
    by_cases c4 : 0≤x5_1
    ·
     rw [if_pos c4] at H
     have c4b0 : decide (0≤x5_1)=true:=decide_eq_true c4;clear c4;obtain ⟨y315,hy315⟩ : ∃ y_ : List Int,y_=(x0_1.set (x5_1 : Int).toNat x1_1):=⟨_,rfl⟩;replace H : (Fo.l0 k1 y315 (wrap64 (x1_1 + 1)) (wrap64 (x5_1 + 1)))=some (r1,r2):=by first|(rw [hy315];with_reducible exact H)|(have H2_:=(Option.bind_some _ _).symm.trans H;rw [hy315];with_reducible exact H2_)|(have H2_:=(Option.bind_some _ _).symm.trans H;with_reducible exact H2_)|with_reducible exact H|(rw [hy315];exact H)|exact H
     have Ny315:=zh hy315;clear hy315;have H':=zh H;clear H;obtain ⟨Ao6,co6,eo6⟩:=yk HO_0.out;subst eo6;have p5 : 0≤(x5_1 : Int):=zy (by first|(with_reducible assumption)|assumption);have q5 : (x5_1 : Int)<((x0_1.length : Int) : Int):=zy (by first|(with_reducible assumption)|assumption);obtain ⟨go5,co5,eo5,gb5,gl5,cl5,HG5⟩:=Kd.R_form HO_0.out (by omega);(first|cases eo5|(injection eo5 with ea_ en_ ec_;(first|subst ea_|(injection ea_ with ea_;subst ea_));subst ec_;clear en_));have GB5:=zh gb5;have GG5:=zh HG5;clear gb5 gl5 HG5;have HMgo5:=zh (show (P0_ go5∨w.heap.size≤go5) from (HO_0.out.1 _ rfl));obtain ⟨hx5_0,hf5_0⟩:=Kd.R_celln 0 HO_0.out (x5_1 : Int) p5 q5;replace p5:=eq_true p5;replace q5:=eq_true q5;have HP7:=Kd.R_putg HO_0.out (x5_1 : Int) x1_1
     go_wp2_with (first|((with_reducible refine gate_store (t:=3) (p:=15) rfl ?_);refine store_event (t:=3) (p:=15) (v:=?vo_w8) (w1:=(wr.setCell ⟨go5,(x5_1 : Int).toNat,none⟩ (.int .i64 x1_1))) ?hg ?ho ?hn ?hr ?_;(case ho => rfl);(case hg => rfl);(case hn => rfl);(case hr => go_simp <;> rfl);intro w8 hw;have hg : wr.grownBy w8 (some go5):=(by rw [hw];exact HP7.2);have hp_ : Kd.R (Kd.int .i64) 3 w8 w0.heap.size (fun k_ => (P0_ k_∨w.heap.size≤k_)) (.slice (some ⟨go5,0,none⟩) x0_1.length co6) y315:=(by rw [hw,Ny315.out];exact HP7.1);clear HP7;replace HB:=zh ((by rw [hw];exact zd (HB.out) GB5.out : Below w0.heap.size w0 w8));replace HK:=zh (yz (S:=(fun k_ => P0_ k_)) hg (by repeat (with_reducible first|exact HK.out|apply zr|apply zp|apply zq)) (fun k_ e_ => (HO_0.out.1 k_ e_)));replace HO_0:=zh (hp_);clear hg hw hp_))
     go_roundg k1
     case measure => have:=HK1.out;omega
     case rel => exact ⟨(y315),(wrap64 (x1_1 + 1)),(wrap64 (x5_1 + 1)),(by first|rfl|(simp;done)|(simp [*];done)),(by first|rfl|(simp;done)|(simp [*];done)),H',⟨by have:=HK1.out;omega⟩,⟨by (with_reducible repeat (first|apply zm|apply zn|apply zo));exact HO_0.out⟩,⟨by repeat (with_reducible first|exact HK.out|apply zr|apply zp|apply zq)⟩,⟨by repeat (with_reducible first|exact HB.out|apply za|apply zb|apply zc)⟩⟩
    rw [if_neg c4] at H;exact absurd H (by simp)
   rw [if_neg c3] at H;have c3b0 : decide (x5_1<(x0_1.length : Int))=false:=decide_eq_false c3;clear c3;simp only [Option.some.injEq,Prod.mk.injEq] at H;obtain ⟨rfl,rfl⟩:=H;obtain ⟨Ao9,co9,eo9⟩:=yk HO_0.out;subst eo9
   go_wp2
   go_ret
   exact ⟨by first|rfl|(simp [yt,yu] <;> rfl)|(simp [*,yt,yu] <;> rfl),by (with_reducible repeat (first|apply zm|apply zn|apply zo));exact HO_0.out,by repeat (with_reducible first|exact HB.out|apply za|apply zb|apply zc),by repeat (with_reducible first|exact HK.out|apply zr|apply zp|apply zq)⟩


def Fc.l0 : Nat→List (S51)→Int→Int→Option (Int)
 | 0,_,_,_ => none
 | k + 1,x0,x1,x5 => if x5<(x0.length : Int) then (if 0≤x5 then ((Fl.f k x1).bind fun t317 => (if ((rd_T51 x0 x5).f0).toList=t317.toList then (if ((rd_T51 x0 x5).f1)=(wrap64 (x1 + 1)) then (Fc.l0 k x0 (wrap64 ((wrap64 (x1 + 1)) + 1)) (wrap64 (x5 + 1))) else (some (-1))) else (some (-1)))) else (none)) else (some x1)
def Fc.f (k : Nat) (l0 : List (S51)) (a1 : Int) : Option (Int):=Fc.l0 k l0 a1 0
theorem Fc.mono_l : ∀ k,(∀ y0 y1 y2,LeO (Fc.l0 k y0 y1 y2) (Fc.l0 (k + 1) y0 y1 y2))
 | 0 => fun _ _ _ r h => by simp [Fc.l0] at h
 | k + 1 => by
  have ih0:=Fc.mono_l k;intro y0 y1 y2;unfold Fc.l0
  repeat' first|(with_reducible first|exact ih0 _ _ _|exact Fl.mono _ _|exact zQ _|exact zN _|refine zP ?_ ?_|refine zO ?_ (fun _ => ?_))|refine zP ?_ ?_|refine zO ?_ (fun _ => ?_)
theorem Fc.mono : ∀ a0 a1 k,LeO (Fc.f k a0 a1) (Fc.f (k + 1) a0 a1):=by
 intro a0 a1 k;have ih0:=Fc.mono_l k;unfold Fc.f
 repeat' first|(with_reducible first|exact ih0 _ _ _|exact Fl.mono _ _|exact zQ _|exact zN _|refine zP ?_ ?_|refine zO ?_ (fun _ => ?_))|refine zP ?_ ?_|refine zO ?_ (fun _ => ?_)
def Fc.T4 : Bool×List (List Nat×List Nat):=(true,[([],[]),([],[]),([0,1],[0,1]),([2],[2]),([3],[3]),([],[]),([5],[5]),([4,6],[4,6])])
def Fc.B4 : List Nat:=[0,0,3,7,15,0,32,127]
theorem Fc.tab4 : rtab .any (opsOf Try.f18 4)=Fc.T4:=by kernel_rfl
theorem Fc.bits4 : waitsOk Fc.T4.2 Fc.B4=true:=by kernel_rfl
set_option maxHeartbeats 8000000 in
set_option maxRecDepth 100000 in
theorem Fc.calls (k : Nat) (A0 : Option Addr) (c0 : Nat) (l0 : List (S51)) (a1 : Int) (r : Int) (w : World) (hr0 : Kd.C k51 w A0 l0.length l0) (hc0 : l0.length≤c0) (h : Fc.f k l0 a1=some r) :
  Calls Try.prog 18 #[.slice A0 l0.length c0,.int .i64 a1] w fun e w' => e = .returned (.int .i64 r)∧Below w.heap.size w w':=by
 have HR0:=zh hr0;have HC0:=zh hc0;clear hr0 hc0;have HB:=zh (Below.refl w.heap.size w);have H : (Fc.l0 k l0 a1 0)=some r:=h;clear h;have H':=zh H;clear H
 go_enter Try.func18,Try.ntmps18
 go_wp2
 go_loopg [1,5] k (fun kq v1 v5 w' => ∃ (x1_1 : Int) (x5_1 : Int),v1 = .int .i64 x1_1∧v5 = .int .i64 x5_1∧Aside0 (Fc.l0 kq l0 x1_1 x5_1=some r)∧Aside0 (kq≤k)∧Aside0 (Below w.heap.size w w'))
 case atStart => exact ⟨(a1),(0),(by first|rfl|(simp;done)|(simp [*];done)),(by first|rfl|(simp;done)|(simp [*];done)),H',⟨ye _⟩,⟨by repeat (with_reducible first|exact HB.out|apply za|apply zb|apply zc)⟩⟩
 case round =>
  clear H'
  try clear c1
  try clear p2
  obtain ⟨x1_1,x5_1,rfl,rfl,HA,HK1,HB⟩:=hrel
  cases gk with
  | zero => exact absurd HA.out (by simp [Fc.l0])
  | succ k1 =>
   have H:=HA.out;clear HA;simp only [Fc.l0] at H
   by_cases c3 : x5_1<(l0.length : Int)
   ·
    rw [if_pos c3] at H
    have c3b0 : decide (x5_1<(l0.length : Int))=true:=decide_eq_true c3;clear c3
    by_cases c4 : 0≤x5_1
    ·
     rw [if_pos c4] at H
     have c4b0 : decide (0≤x5_1)=true:=decide_eq_true c4;clear c4;replace H:=zT.mp H;obtain ⟨t317,A50,H⟩:=H;replace H : (if ((rd_T51 l0 x5_1).f0).toList=t317.toList then (if ((rd_T51 l0 x5_1).f1)=(wrap64 (x1_1 + 1)) then (Fc.l0 k1 l0 (wrap64 ((wrap64 (x1_1 + 1)) + 1)) (wrap64 (x5_1 + 1))) else (some (-1))) else (some (-1)))=some r:=H;have A5:=zh A50;clear A50
     by_cases c6 : ((rd_T51 l0 x5_1).f0).toList=t317.toList
     ·
      rw [if_pos c6] at H
      have c6b0 : (((rd_T51 l0 x5_1).f0).toList == t317.toList)=true:=ya.mpr c6;have c6b1 : (((rd_T51 l0 x5_1).f0).toList != t317.toList)=false:=zX.mpr c6;clear c6
      by_cases c7 : ((rd_T51 l0 x5_1).f1)=(wrap64 (x1_1 + 1))
      ·
       rw [if_pos c7] at H
       have c7b0 : (((rd_T51 l0 x5_1).f1) == (wrap64 (x1_1 + 1)))=true:=ya.mpr c7;have c7b1 : (((rd_T51 l0 x5_1).f1) != (wrap64 (x1_1 + 1)))=false:=zX.mpr c7;clear c7;have H':=zh H;clear H
       try go_wp2
       replace HB:=zh (zc HB.out);have p316 : 0≤(x5_1 : Int):=zy (by first|(with_reducible assumption)|assumption);have q316 : x5_1<(l0.length : Int):=zy (by first|(with_reducible assumption)|assumption);obtain ⟨ad316,e316,hx316_0,hx316_1⟩:=at_T51 HR0.out x5_1 p316 q316;have hw316_1:=hx316_1;have hw316_0:=hx316_0
       cases e316
       replace hx316_0:=(HB.out.cell (zl w _ hx316_0)).trans hx316_0;replace hx316_1:=(HB.out.cell (zl w _ hx316_1)).trans hx316_1;replace p316:=eq_true p316;replace q316:=eq_true q316;refine start_ (n:=8) (S:=fun w' => w'.cell? (ad316.add ((x5_1).toNat * 2))=some (.string ((rd_T51 l0 x5_1).f0))∧w'.cell? ⟨(ad316.add ((x5_1).toNat * 2)).block,(ad316.add ((x5_1).toNat * 2)).off + 1,none⟩=some (.int .i64 ((rd_T51 l0 x5_1).f1))) (ds:=[]) (bm_ 0 8) (by kernel_rfl) rfl rfl ⟨((HB.out.cell (zl w _ hw316_0)).trans hw316_0),((HB.out.cell (zl w _ hw316_1)).trans hw316_1)⟩ (fun hHeld => ?_);refine with_tabW Fc.tab4 Fc.bits4 (fun HT_ HW_ => ?_);generalize wr.drew=w8 at HB hx316_0 hx316_1 hHeld ⊢;refine pure_ (i:=0) (N:=some 12) (v:=?_) (a':=?_) (bm_ 1 8) rfl rfl (any_of HT_.out (by kernel_rfl)) (fun _ _ _ h => h) (Or.inl ⟨by rfl,?_⟩) ?_ ?_;rotate_left
       ·
        intro w'
        go_simp
        with_reducible rfl
       rotate_left
       ·
        simp only [Act.put,zi,zj,zk,zG,zH]
        rfl
       refine pure_ (i:=1) (N:=some 13) (v:=?_) (a':=?_) (bm_ 2 8) rfl rfl (any_of HT_.out (by kernel_rfl)) (fun _ _ _ h => h) (Or.inl ⟨by rfl,?_⟩) ?_ ?_;rotate_left
       ·
        intro w'
        go_simp
        with_reducible rfl
       rotate_left
       ·
        simp only [Act.put,zi,zj,zk,zG,zH]
        rfl
       refine pure_ (i:=2) (N:=some 14) (v:=?_) (a':=?_) (bm_ 3 8) rfl rfl (any_of HT_.out (by kernel_rfl)) (fun _ _ _ h => h) (Or.inl ⟨by rfl,?_⟩) ?_ ?_;rotate_left
       ·
        intro w'
        go_simp
        with_reducible rfl
       rotate_left
       ·
        simp only [Act.put,zi,zj,zk,zG,zH]
        rfl
       refine pure_ (i:=3) (N:=some 15) (v:=?_) (a':=?_) (bm_ 4 8) rfl rfl (any_of HT_.out (by kernel_rfl)) (fun _ _ _ h => h) (Or.inl ⟨by rfl,?_⟩) ?_ ?_;rotate_left
       ·
        intro w'
        go_simp
        with_reducible rfl
       rotate_left
       ·
        simp only [Act.put,zi,zj,zk,zG,zH]
        rfl
       refine pure_ (i:=5) (N:=some 17) (v:=?_) (a':=?_) #[true,true,true,true,false,true,false,false] rfl rfl (any_of HT_.out (by kernel_rfl)) (fun _ _ _ h => h) (Or.inl ⟨by rfl,?_⟩) ?_ ?_;rotate_left
       ·
        intro w'
        go_simp
        with_reducible rfl
       rotate_left
       ·
        simp only [Act.put,zi,zj,zk,zG,zH]
        rfl
       refine take_ (i:=4) (N:=some 16) (v:=?_) (a':=?_) (bm_ 6 8) rfl rfl (yo HT_.out HW_.out (by kernel_rfl)) (fun _ _ _ h => h) (Or.inl ⟨by rfl,?_⟩) hHeld ?_ ?_;rotate_left
       ·
        rintro w' ⟨s0,s1⟩
        go_simp
        with_reducible rfl
       rotate_left
       ·
        simp only [Act.put,zi,zj,zk,zG,zH]
        rfl
       refine one_ (i:=6) (N:=some 18) (bm_ 7 8) rfl rfl (one_of HT_.out (by kernel_rfl)) (by decide) (fun K hK => ?_);refine goes_ Try.func40 (by kernel_rfl) rfl #[.int .i64 x1_1] (by rfl) rfl rfl (by (try simp only [zt,zu,zv]);first|done|rfl|(simp only [zw,zx];rfl)|(simp only [yr,ys,zV,zW];rfl)) ?_
       with_reducible refine (Fl.calls k1  x1_1 t317 _ A5.out).mono ?_
       rintro e w9 ⟨rfl,hb⟩;refine ⟨_,rfl,?_⟩;replace HB:=zh (zC (by repeat (with_reducible first|exact HB.out|apply za|apply zb|apply zc)) hb);(try clear hb);(try clear hb2);(try clear hk);(try clear hi);refine hK.out _ _ ⟨((HB.out.cell (zl w _ hw316_0)).trans hw316_0),((HB.out.cell (zl w _ hw316_1)).trans hw316_1)⟩ (fun hHeld => ?_);clear hK K;refine norm_ (a':=?_) ?_ ?_;rotate_left
       ·
        show Act.put _ (some 18) _=_
        simp only [Act.put,zi,zj,zk,zG,zH]
        rfl
       refine pure_ (i:=7) (N:=some 19) (v:=?_) (a':=?_) (bm_ 8 8) rfl rfl (any_of HT_.out (by kernel_rfl)) (fun _ _ _ h => h) (Or.inl ⟨by rfl,?_⟩) ?_ ?_;rotate_left
       ·
        intro w'
        go_simp
        with_reducible rfl
       rotate_left
       ·
        simp only [Act.put,zi,zj,zk,zG,zH]
        rfl
       refine done_ (done_of HT_.out (by kernel_rfl)) ?_;have p318 : 0≤(x5_1 : Int):=zy (by first|(with_reducible assumption)|assumption);have q318 : x5_1<(l0.length : Int):=zy (by first|(with_reducible assumption)|assumption);obtain ⟨ad318,e318,hx318_0,hx318_1⟩:=at_T51 HR0.out x5_1 p318 q318;obtain rfl : ad316=ad318:=(by injection e318);replace hx318_0:=(HB.out.cell (zl w _ hx318_0)).trans hx318_0;replace hx318_1:=(HB.out.cell (zl w _ hx318_1)).trans hx318_1;replace p318:=eq_true p318;replace q318:=eq_true q318
       try go_wp2
       go_roundg k1
       case measure => have:=HK1.out;omega
       case rel => exact ⟨(wrap64 ((wrap64 (x1_1 + 1)) + 1)),(wrap64 (x5_1 + 1)),(by first|rfl|(simp;done)|(simp [*];done)),(by first|rfl|(simp;done)|(simp [*];done)),H',⟨by have:=HK1.out;omega⟩,⟨by repeat (with_reducible first|exact HB.out|apply za|apply zb|apply zc)⟩⟩
      rw [if_neg c7] at H;have c7b0 : (((rd_T51 l0 x5_1).f1) == (wrap64 (x1_1 + 1)))=false:=zY.mpr c7;have c7b1 : (((rd_T51 l0 x5_1).f1) != (wrap64 (x1_1 + 1)))=true:=zZ.mpr c7;obtain rfl:=zU H
      try go_wp2
      replace HB:=zh (zc HB.out);have p316 : 0≤(x5_1 : Int):=zy (by first|(with_reducible assumption)|assumption);have q316 : x5_1<(l0.length : Int):=zy (by first|(with_reducible assumption)|assumption);obtain ⟨ad316,e316,hx316_0,hx316_1⟩:=at_T51 HR0.out x5_1 p316 q316;have hw316_1:=hx316_1;have hw316_0:=hx316_0
      cases e316
      replace hx316_0:=(HB.out.cell (zl w _ hx316_0)).trans hx316_0;replace hx316_1:=(HB.out.cell (zl w _ hx316_1)).trans hx316_1;replace p316:=eq_true p316;replace q316:=eq_true q316;refine start_ (n:=8) (S:=fun w' => w'.cell? (ad316.add ((x5_1).toNat * 2))=some (.string ((rd_T51 l0 x5_1).f0))∧w'.cell? ⟨(ad316.add ((x5_1).toNat * 2)).block,(ad316.add ((x5_1).toNat * 2)).off + 1,none⟩=some (.int .i64 ((rd_T51 l0 x5_1).f1))) (ds:=[]) (bm_ 0 8) (by kernel_rfl) rfl rfl ⟨((HB.out.cell (zl w _ hw316_0)).trans hw316_0),((HB.out.cell (zl w _ hw316_1)).trans hw316_1)⟩ (fun hHeld => ?_);refine with_tabW Fc.tab4 Fc.bits4 (fun HT_ HW_ => ?_);generalize wr.drew=w10 at HB hx316_0 hx316_1 hHeld ⊢;refine pure_ (i:=0) (N:=some 12) (v:=?_) (a':=?_) (bm_ 1 8) rfl rfl (any_of HT_.out (by kernel_rfl)) (fun _ _ _ h => h) (Or.inl ⟨by rfl,?_⟩) ?_ ?_;rotate_left
      ·
       intro w'
       go_simp
       with_reducible rfl
      rotate_left
      ·
       simp only [Act.put,zi,zj,zk,zG,zH]
       rfl
      refine pure_ (i:=1) (N:=some 13) (v:=?_) (a':=?_) (bm_ 2 8) rfl rfl (any_of HT_.out (by kernel_rfl)) (fun _ _ _ h => h) (Or.inl ⟨by rfl,?_⟩) ?_ ?_;rotate_left
      ·
       intro w'
       go_simp
       with_reducible rfl
      rotate_left
      ·
       simp only [Act.put,zi,zj,zk,zG,zH]
       rfl
      refine pure_ (i:=2) (N:=some 14) (v:=?_) (a':=?_) (bm_ 3 8) rfl rfl (any_of HT_.out (by kernel_rfl)) (fun _ _ _ h => h) (Or.inl ⟨by rfl,?_⟩) ?_ ?_;rotate_left
      ·
       intro w'
       go_simp
       with_reducible rfl
      rotate_left
      ·
       simp only [Act.put,zi,zj,zk,zG,zH]
       rfl
      refine pure_ (i:=3) (N:=some 15) (v:=?_) (a':=?_) (bm_ 4 8) rfl rfl (any_of HT_.out (by kernel_rfl)) (fun _ _ _ h => h) (Or.inl ⟨by rfl,?_⟩) ?_ ?_;rotate_left
      ·
       intro w'
       go_simp
       with_reducible rfl
      rotate_left
      ·
       simp only [Act.put,zi,zj,zk,zG,zH]
       rfl
      refine pure_ (i:=5) (N:=some 17) (v:=?_) (a':=?_) #[true,true,true,true,false,true,false,false] rfl rfl (any_of HT_.out (by kernel_rfl)) (fun _ _ _ h => h) (Or.inl ⟨by rfl,?_⟩) ?_ ?_;rotate_left
      ·
       intro w'
       go_simp
       with_reducible rfl
      rotate_left
      ·
       simp only [Act.put,zi,zj,zk,zG,zH]
       rfl
      refine take_ (i:=4) (N:=some 16) (v:=?_) (a':=?_) (bm_ 6 8) rfl rfl (yo HT_.out HW_.out (by kernel_rfl)) (fun _ _ _ h => h) (Or.inl ⟨by rfl,?_⟩) hHeld ?_ ?_;rotate_left
      ·
       rintro w' ⟨s0,s1⟩
       go_simp
       with_reducible rfl
      rotate_left
      ·
       simp only [Act.put,zi,zj,zk,zG,zH]
       rfl
      refine one_ (i:=6) (N:=some 18) (bm_ 7 8) rfl rfl (one_of HT_.out (by kernel_rfl)) (by decide) (fun K hK => ?_);refine goes_ Try.func40 (by kernel_rfl) rfl #[.int .i64 x1_1] (by rfl) rfl rfl (by (try simp only [zt,zu,zv]);first|done|rfl|(simp only [zw,zx];rfl)|(simp only [yr,ys,zV,zW];rfl)) ?_
      with_reducible refine (Fl.calls k1  x1_1 t317 _ A5.out).mono ?_
      rintro e w11 ⟨rfl,hb⟩;refine ⟨_,rfl,?_⟩;replace HB:=zh (zC (by repeat (with_reducible first|exact HB.out|apply za|apply zb|apply zc)) hb);(try clear hb);(try clear hb2);(try clear hk);(try clear hi);refine hK.out _ _ ⟨((HB.out.cell (zl w _ hw316_0)).trans hw316_0),((HB.out.cell (zl w _ hw316_1)).trans hw316_1)⟩ (fun hHeld => ?_);clear hK K;refine norm_ (a':=?_) ?_ ?_;rotate_left
      ·
       show Act.put _ (some 18) _=_
       simp only [Act.put,zi,zj,zk,zG,zH]
       rfl
      refine pure_ (i:=7) (N:=some 19) (v:=?_) (a':=?_) (bm_ 8 8) rfl rfl (any_of HT_.out (by kernel_rfl)) (fun _ _ _ h => h) (Or.inl ⟨by rfl,?_⟩) ?_ ?_;rotate_left
      ·
       intro w'
       go_simp
       with_reducible rfl
      rotate_left
      ·
       simp only [Act.put,zi,zj,zk,zG,zH]
       rfl
      refine done_ (done_of HT_.out (by kernel_rfl)) ?_;have p318 : 0≤(x5_1 : Int):=zy (by first|(with_reducible assumption)|assumption);have q318 : x5_1<(l0.length : Int):=zy (by first|(with_reducible assumption)|assumption);obtain ⟨ad318,e318,hx318_0,hx318_1⟩:=at_T51 HR0.out x5_1 p318 q318;obtain rfl : ad316=ad318:=(by injection e318);replace hx318_0:=(HB.out.cell (zl w _ hx318_0)).trans hx318_0;replace hx318_1:=(HB.out.cell (zl w _ hx318_1)).trans hx318_1;replace p318:=eq_true p318;replace q318:=eq_true q318
      try go_wp2
      go_ret
      exact ⟨by first|rfl|(simp [yt,yu] <;> rfl)|(simp [*,yt,yu] <;> rfl),by repeat (with_reducible first|exact HB.out|apply za|apply zb|apply zc)⟩
     rw [if_neg c6] at H;have c6b0 : (((rd_T51 l0 x5_1).f0).toList == t317.toList)=false:=zY.mpr c6;have c6b1 : (((rd_T51 l0 x5_1).f0).toList != t317.toList)=true:=zZ.mpr c6;obtain rfl:=zU H
     try go_wp2
     replace HB:=zh (zc HB.out);have p316 : 0≤(x5_1 : Int):=zy (by first|(with_reducible assumption)|assumption);have q316 : x5_1<(l0.length : Int):=zy (by first|(with_reducible assumption)|assumption);obtain ⟨ad316,e316,hx316_0,hx316_1⟩:=at_T51 HR0.out x5_1 p316 q316;have hw316_1:=hx316_1;have hw316_0:=hx316_0
     cases e316
     replace hx316_0:=(HB.out.cell (zl w _ hx316_0)).trans hx316_0;replace hx316_1:=(HB.out.cell (zl w _ hx316_1)).trans hx316_1;replace p316:=eq_true p316;replace q316:=eq_true q316;refine start_ (n:=8) (S:=fun w' => w'.cell? (ad316.add ((x5_1).toNat * 2))=some (.string ((rd_T51 l0 x5_1).f0))∧w'.cell? ⟨(ad316.add ((x5_1).toNat * 2)).block,(ad316.add ((x5_1).toNat * 2)).off + 1,none⟩=some (.int .i64 ((rd_T51 l0 x5_1).f1))) (ds:=[]) (bm_ 0 8) (by kernel_rfl) rfl rfl ⟨((HB.out.cell (zl w _ hw316_0)).trans hw316_0),((HB.out.cell (zl w _ hw316_1)).trans hw316_1)⟩ (fun hHeld => ?_);refine with_tabW Fc.tab4 Fc.bits4 (fun HT_ HW_ => ?_);generalize wr.drew=w12 at HB hx316_0 hx316_1 hHeld ⊢;refine pure_ (i:=0) (N:=some 12) (v:=?_) (a':=?_) (bm_ 1 8) rfl rfl (any_of HT_.out (by kernel_rfl)) (fun _ _ _ h => h) (Or.inl ⟨by rfl,?_⟩) ?_ ?_;rotate_left
     ·
      intro w'
      go_simp
      with_reducible rfl
     rotate_left
     ·
      simp only [Act.put,zi,zj,zk,zG,zH]
      rfl
     refine pure_ (i:=1) (N:=some 13) (v:=?_) (a':=?_) (bm_ 2 8) rfl rfl (any_of HT_.out (by kernel_rfl)) (fun _ _ _ h => h) (Or.inl ⟨by rfl,?_⟩) ?_ ?_;rotate_left
     ·
      intro w'
      go_simp
      with_reducible rfl
     rotate_left
     ·
      simp only [Act.put,zi,zj,zk,zG,zH]
      rfl
     refine pure_ (i:=2) (N:=some 14) (v:=?_) (a':=?_) (bm_ 3 8) rfl rfl (any_of HT_.out (by kernel_rfl)) (fun _ _ _ h => h) (Or.inl ⟨by rfl,?_⟩) ?_ ?_;rotate_left
     ·
      intro w'
      go_simp
      with_reducible rfl
     rotate_left
     ·
      simp only [Act.put,zi,zj,zk,zG,zH]
      rfl
     refine pure_ (i:=3) (N:=some 15) (v:=?_) (a':=?_) (bm_ 4 8) rfl rfl (any_of HT_.out (by kernel_rfl)) (fun _ _ _ h => h) (Or.inl ⟨by rfl,?_⟩) ?_ ?_;rotate_left
     ·
      intro w'
      go_simp
      with_reducible rfl
     rotate_left
     ·
      simp only [Act.put,zi,zj,zk,zG,zH]
      rfl
     refine pure_ (i:=5) (N:=some 17) (v:=?_) (a':=?_) #[true,true,true,true,false,true,false,false] rfl rfl (any_of HT_.out (by kernel_rfl)) (fun _ _ _ h => h) (Or.inl ⟨by rfl,?_⟩) ?_ ?_;rotate_left
     ·
      intro w'
      go_simp
      with_reducible rfl
     rotate_left
     ·
      simp only [Act.put,zi,zj,zk,zG,zH]
      rfl
     refine take_ (i:=4) (N:=some 16) (v:=?_) (a':=?_) (bm_ 6 8) rfl rfl (yo HT_.out HW_.out (by kernel_rfl)) (fun _ _ _ h => h) (Or.inl ⟨by rfl,?_⟩) hHeld ?_ ?_;rotate_left
     ·
      rintro w' ⟨s0,s1⟩
      go_simp
      with_reducible rfl
     rotate_left
     ·
      simp only [Act.put,zi,zj,zk,zG,zH]
      rfl
     refine one_ (i:=6) (N:=some 18) (bm_ 7 8) rfl rfl (one_of HT_.out (by kernel_rfl)) (by decide) (fun K hK => ?_);refine goes_ Try.func40 (by kernel_rfl) rfl #[.int .i64 x1_1] (by rfl) rfl rfl (by (try simp only [zt,zu,zv]);first|done|rfl|(simp only [zw,zx];rfl)|(simp only [yr,ys,zV,zW];rfl)) ?_
     with_reducible refine (Fl.calls k1  x1_1 t317 _ A5.out).mono ?_
     rintro e w13 ⟨rfl,hb⟩;refine ⟨_,rfl,?_⟩;replace HB:=zh (zC (by repeat (with_reducible first|exact HB.out|apply za|apply zb|apply zc)) hb);(try clear hb);(try clear hb2);(try clear hk);(try clear hi);refine hK.out _ _ ⟨((HB.out.cell (zl w _ hw316_0)).trans hw316_0),((HB.out.cell (zl w _ hw316_1)).trans hw316_1)⟩ (fun hHeld => ?_);clear hK K;refine norm_ (a':=?_) ?_ ?_;rotate_left
     ·
      show Act.put _ (some 18) _=_
      simp only [Act.put,zi,zj,zk,zG,zH]
      rfl
     refine pure_ (i:=7) (N:=some 19) (v:=?_) (a':=?_) (bm_ 8 8) rfl rfl (any_of HT_.out (by kernel_rfl)) (fun _ _ _ h => h) (Or.inl ⟨by rfl,?_⟩) ?_ ?_;rotate_left
     ·
      intro w'
      go_simp
      with_reducible rfl
     rotate_left
     ·
      simp only [Act.put,zi,zj,zk,zG,zH]
      rfl
     refine done_ (done_of HT_.out (by kernel_rfl)) ?_
     try go_wp2
     go_ret
     exact ⟨by first|rfl|(simp [yt,yu] <;> rfl)|(simp [*,yt,yu] <;> rfl),by repeat (with_reducible first|exact HB.out|apply za|apply zb|apply zc)⟩
    rw [if_neg c4] at H;exact absurd H (by simp)
   rw [if_neg c3] at H;have c3b0 : decide (x5_1<(l0.length : Int))=false:=decide_eq_false c3;clear c3;obtain rfl:=zU H
   go_wp2
   go_ret
   exact ⟨by first|rfl|(simp [yt,yu] <;> rfl)|(simp [*,yt,yu] <;> rfl),by repeat (with_reducible first|exact HB.out|apply za|apply zb|apply zc)⟩


def Fi.l0 : Nat→List Int→Int→Int→Option (Int)
 | 0,_,_,_ => none
 | k + 1,x0,x1,x5 => if x5<(x0.length : Int) then (if 0≤x5 then (if (rd x0 x5)=x1 then (Fi.l0 k x0 (wrap64 (x1 + 1)) (wrap64 (x5 + 1))) else (some (-1))) else (none)) else (some x1)
def Fi.f (k : Nat) (l0 : List Int) (a1 : Int) : Option (Int):=Fi.l0 k l0 a1 0
theorem Fi.mono_l : ∀ k,(∀ y0 y1 y2,LeO (Fi.l0 k y0 y1 y2) (Fi.l0 (k + 1) y0 y1 y2))
 | 0 => fun _ _ _ r h => by simp [Fi.l0] at h
 | k + 1 => by
  have ih0:=Fi.mono_l k;intro y0 y1 y2;unfold Fi.l0
  repeat' first|(with_reducible first|exact ih0 _ _ _|exact zQ _|exact zN _|refine zP ?_ ?_|refine zO ?_ (fun _ => ?_))|refine zP ?_ ?_|refine zO ?_ (fun _ => ?_)
theorem Fi.mono : ∀ a0 a1 k,LeO (Fi.f k a0 a1) (Fi.f (k + 1) a0 a1):=by
 intro a0 a1 k;have ih0:=Fi.mono_l k;unfold Fi.f
 repeat' first|(with_reducible first|exact ih0 _ _ _|exact zQ _|exact zN _|refine zP ?_ ?_|refine zO ?_ (fun _ => ?_))|refine zP ?_ ?_|refine zO ?_ (fun _ => ?_)
set_option maxHeartbeats 8000000 in
set_option maxRecDepth 100000 in
theorem Fi.calls (k : Nat) (A0 : Option Addr) (c0 : Nat) (l0 : List Int) (a1 : Int) (r : Int) (w : World) (hr0 : Kd.C (Kd.int .i64) w A0 l0.length l0) (hc0 : l0.length≤c0) (h : Fi.f k l0 a1=some r) :
  Calls Try.prog 19 #[.slice A0 l0.length c0,.int .i64 a1] w fun e w' => e = .returned (.int .i64 r)∧Drawn0 w w':=by
 have HR0:=zh hr0;have HC0:=zh hc0;clear hr0 hc0;have H : (Fi.l0 k l0 a1 0)=some r:=h;clear h;have H':=zh H;clear H
 go_enter Try.func19,Try.ntmps19
 go_wp2
 go_loopg [1,5] k (fun kq v1 v5 w' => ∃ (x1_1 : Int) (x5_1 : Int),v1 = .int .i64 x1_1∧v5 = .int .i64 x5_1∧Aside0 (Fi.l0 kq l0 x1_1 x5_1=some r)∧Aside0 (kq≤k)∧Drawn0 w w')
 case atStart => exact ⟨(a1),(0),(by first|rfl|(simp;done)|(simp [*];done)),(by first|rfl|(simp;done)|(simp [*];done)),H',⟨ye _⟩,by repeat (first|exact yp _|apply yq)⟩
 case round =>
  clear H'
  try clear c1
  try clear p2
  obtain ⟨x1_1,x5_1,rfl,rfl,HA,HK1,⟨m1,rfl⟩⟩:=hrel
  cases gk with
  | zero => exact absurd HA.out (by simp [Fi.l0])
  | succ k1 =>
   have H:=HA.out;clear HA;simp only [Fi.l0] at H
   by_cases c3 : x5_1<(l0.length : Int)
   ·
    rw [if_pos c3] at H
    have c3b0 : decide (x5_1<(l0.length : Int))=true:=decide_eq_true c3;clear c3
    by_cases c4 : 0≤x5_1
    ·
     rw [if_pos c4] at H
     have c4b0 : decide (0≤x5_1)=true:=decide_eq_true c4;clear c4
     by_cases c5 : (rd l0 x5_1)=x1_1
     ·
      rw [if_pos c5] at H
      have c5b0 : ((rd l0 x5_1) == x1_1)=true:=ya.mpr c5;have c5b1 : ((rd l0 x5_1) != x1_1)=false:=zX.mpr c5;clear c5;have H':=zh H;clear H;have p319 : 0≤(x5_1 : Int):=zy (by first|(with_reducible assumption)|assumption);have q319 : x5_1<(l0.length : Int):=zy (by first|(with_reducible assumption)|assumption);obtain ⟨ad319,e319,hx319_0⟩:=Kd.at_int HR0.out x5_1 p319 q319
      cases e319
      replace p319:=eq_true p319;replace q319:=eq_true q319
      go_wp2
      go_roundg k1
      case measure => have:=HK1.out;omega
      case rel => exact ⟨(wrap64 (x1_1 + 1)),(wrap64 (x5_1 + 1)),(by first|rfl|(simp;done)|(simp [*];done)),(by first|rfl|(simp;done)|(simp [*];done)),H',⟨by have:=HK1.out;omega⟩,by repeat (first|exact yp _|apply yq)⟩
     rw [if_neg c5] at H;have c5b0 : ((rd l0 x5_1) == x1_1)=false:=zY.mpr c5;have c5b1 : ((rd l0 x5_1) != x1_1)=true:=zZ.mpr c5;obtain rfl:=zU H;have p319 : 0≤(x5_1 : Int):=zy (by first|(with_reducible assumption)|assumption);have q319 : x5_1<(l0.length : Int):=zy (by first|(with_reducible assumption)|assumption);obtain ⟨ad319,e319,hx319_0⟩:=Kd.at_int HR0.out x5_1 p319 q319
     cases e319
     replace p319:=eq_true p319;replace q319:=eq_true q319
     go_wp2
     go_ret
     exact ⟨by first|rfl|(simp;done)|(simp [*];done),by repeat (first|exact yp _|apply yq)⟩
    rw [if_neg c4] at H;exact absurd H (by simp)
   rw [if_neg c3] at H;have c3b0 : decide (x5_1<(l0.length : Int))=false:=decide_eq_false c3;clear c3;obtain rfl:=zU H
   go_wp2
   go_ret
   exact ⟨by first|rfl|(simp;done)|(simp [*];done),by repeat (first|exact yp _|apply yq)⟩


def Fm.f (a0_0 : ByteArray) (a0_1 : Int) (a1 : Int) : Option (Int):=if (wrap64 (a1 - (a0_0.size : Int)))<0 then (some (-1)) else (some (wrap64 (a1 - (a0_0.size : Int))))
set_option maxHeartbeats 8000000 in
set_option maxRecDepth 100000 in
theorem Fm.calls (a0_0 : ByteArray) (a0_1 : Int) (a1 : Int) (r : Int) (w : World) (h : Fm.f a0_0 a0_1 a1=some r) :
  Calls Try.prog 20 #[.agg #[.string a0_0,.int .i64 a0_1],.int .i64 a1] w fun e w' => e = .returned (.int .i64 r)∧Below w.heap.size w w':=by
 have hu47:=Try.underlying47;have HB:=zh (Below.refl w.heap.size w);have H : (if (wrap64 (a1 - (a0_0.size : Int)))<0 then (some (-1)) else (some (wrap64 (a1 - (a0_0.size : Int)))))=some r:=h;clear h
 by_cases c3 : (wrap64 (a1 - (a0_0.size : Int)))<0
 ·
  rw [if_pos c3] at H
  have c3b0 : decide ((wrap64 (a1 - (a0_0.size : Int)))<0)=true:=decide_eq_true c3;clear c3;obtain rfl:=zU H
  go_enter Try.func20,Try.ntmps20
  go_wp2_with (first|((with_reducible refine zK (N:=2) rfl ?_);refine zI ?hg (N:=2) ?hd (cs:=#[.string a0_0,.int .i64 a0_1]) (t:=47) ?hr ?_;(case hd|hg => rfl);(case hr => go_simp <;> rfl);intro gb101 hg w4 hbox hb;have BK101:=zh (hbox);have hH_:=cH (by repeat (with_reducible first|exact HB.out|apply za|apply zb|apply zc)) hb hg;have GW101:=zh hH_.1;have GE101:=GW101;replace HB:=zh hH_.2;clear hb hbox hg hH_;obtain ⟨hcz5_0,hcz5_1,hfz5_0,hfz5_1⟩:=cB2 BK101.out))
  go_ret
  exact ⟨by first|rfl|(simp [yt,yu] <;> rfl)|(simp [*,yt,yu] <;> rfl),by repeat (with_reducible first|exact HB.out|apply za|apply zb|apply zc|refine zd ?_ GE101.out)⟩
 rw [if_neg c3] at H;have c3b0 : decide ((wrap64 (a1 - (a0_0.size : Int)))<0)=false:=decide_eq_false c3;clear c3;obtain rfl:=zU H
 go_enter Try.func20,Try.ntmps20
 go_wp2_with (first|((with_reducible refine zK (N:=2) rfl ?_);refine zI ?hg (N:=2) ?hd (cs:=#[.string a0_0,.int .i64 a0_1]) (t:=47) ?hr ?_;(case hd|hg => rfl);(case hr => go_simp <;> rfl);intro gb101 hg w6 hbox hb;have BK101:=zh (hbox);have hH_:=cH (by repeat (with_reducible first|exact HB.out|apply za|apply zb|apply zc)) hb hg;have GW101:=zh hH_.1;have GE101:=GW101;replace HB:=zh hH_.2;clear hb hbox hg hH_;obtain ⟨hcz7_0,hcz7_1,hfz7_0,hfz7_1⟩:=cB2 BK101.out))
 go_ret
 exact ⟨by first|rfl|(simp [yt,yu] <;> rfl)|(simp [*,yt,yu] <;> rfl),by repeat (with_reducible first|exact HB.out|apply za|apply zb|apply zc|refine zd ?_ GE101.out)⟩


def Fu.l0 : Nat→List (S47)→Int→Int→Option (Int)
 | 0,_,_,_ => none
 | k + 1,x0,x1,x5 => if x5<(x0.length : Int) then (if 0≤x5 then ((Fm.f ((rd_T47 x0 x5).f0) ((rd_T47 x0 x5).f1) x1).bind fun t103 => (if t103<0 then (some (-1)) else (Fu.l0 k x0 t103 (wrap64 (x5 + 1))))) else (none)) else (some x1)
def Fu.f (k : Nat) (l0 : List (S47)) (a1 : Int) : Option (Int):=if (wrap64 (a1 - (l0.length : Int)))<0 then (some (-1)) else (Fu.l0 k l0 (wrap64 (a1 - (l0.length : Int))) 0)
theorem Fu.mono_l : ∀ k,(∀ y0 y1 y2,LeO (Fu.l0 k y0 y1 y2) (Fu.l0 (k + 1) y0 y1 y2))
 | 0 => fun _ _ _ r h => by simp [Fu.l0] at h
 | k + 1 => by
  have ih0:=Fu.mono_l k;intro y0 y1 y2;unfold Fu.l0
  repeat' first|(with_reducible first|exact ih0 _ _ _|exact zQ _|exact zN _|refine zP ?_ ?_|refine zO ?_ (fun _ => ?_))|refine zP ?_ ?_|refine zO ?_ (fun _ => ?_)
theorem Fu.mono : ∀ a0 a1 k,LeO (Fu.f k a0 a1) (Fu.f (k + 1) a0 a1):=by
 intro a0 a1 k;have ih0:=Fu.mono_l k;unfold Fu.f
 repeat' first|(with_reducible first|exact ih0 _ _ _|exact zQ _|exact zN _|refine zP ?_ ?_|refine zO ?_ (fun _ => ?_))|refine zP ?_ ?_|refine zO ?_ (fun _ => ?_)
set_option maxHeartbeats 8000000 in
set_option maxRecDepth 100000 in
theorem Fu.calls (k : Nat) (A0 : Option Addr) (c0 : Nat) (l0 : List (S47)) (a1 : Int) (r : Int) (w : World) (hr0 : Kd.C k47 w A0 l0.length l0) (hc0 : l0.length≤c0) (h : Fu.f k l0 a1=some r) :
  Calls Try.prog 67 #[.slice A0 l0.length c0,.int .i64 a1] w fun e w' => e = .returned (.int .i64 r)∧Below w.heap.size w w':=by
 have hu47:=Try.underlying47;have HR0:=zh hr0;have HC0:=zh hc0;clear hr0 hc0;have HB:=zh (Below.refl w.heap.size w);have H : (if (wrap64 (a1 - (l0.length : Int)))<0 then (some (-1)) else (Fu.l0 k l0 (wrap64 (a1 - (l0.length : Int))) 0))=some r:=h;clear h
 by_cases c3 : (wrap64 (a1 - (l0.length : Int)))<0
 ·
  rw [if_pos c3] at H
  have c3b0 : decide ((wrap64 (a1 - (l0.length : Int)))<0)=true:=decide_eq_true c3;clear c3;obtain rfl:=zU H
  go_enter Try.func67,Try.ntmps67
  go_wp2
  go_ret
  exact ⟨by first|rfl|(simp [yt,yu] <;> rfl)|(simp [*,yt,yu] <;> rfl),by repeat (with_reducible first|exact HB.out|apply za|apply zb|apply zc)⟩
 rw [if_neg c3] at H;have c3b0 : decide ((wrap64 (a1 - (l0.length : Int)))<0)=false:=decide_eq_false c3;clear c3;have H':=zh H;clear H
 go_enter Try.func67,Try.ntmps67
 go_wp2
 go_loopg [1,5] k (fun kq v1 v5 w' => ∃ (x1_1 : Int) (x5_1 : Int),v1 = .int .i64 x1_1∧v5 = .int .i64 x5_1∧Aside0 (Fu.l0 kq l0 x1_1 x5_1=some r)∧Aside0 (kq≤k)∧Aside0 (Below w.heap.size w w'))
 case atStart => exact ⟨(wrap64 (a1 - (l0.length : Int))),(0),(by first|rfl|(simp;done)|(simp [*];done)),(by first|rfl|(simp;done)|(simp [*];done)),H',⟨ye _⟩,⟨by repeat (with_reducible first|exact HB.out|apply za|apply zb|apply zc)⟩⟩
 case round =>
  clear H'
  try clear p2
  try clear c3 c3b0
  obtain ⟨x1_1,x5_1,rfl,rfl,HA,HK1,HB⟩:=hrel
  cases gk with
  | zero => exact absurd HA.out (by simp [Fu.l0])
  | succ k1 =>
   have H:=HA.out;clear HA;simp only [Fu.l0] at H
   by_cases c4 : x5_1<(l0.length : Int)
   ·
    rw [if_pos c4] at H
    have c4b0 : decide (x5_1<(l0.length : Int))=true:=decide_eq_true c4;clear c4
    by_cases c5 : 0≤x5_1
    ·
     rw [if_pos c5] at H
     have c5b0 : decide (0≤x5_1)=true:=decide_eq_true c5;clear c5;replace H:=zT.mp H;obtain ⟨t103,A60,H⟩:=H;replace H : (if t103<0 then (some (-1)) else (Fu.l0 k1 l0 t103 (wrap64 (x5_1 + 1))))=some r:=H;have A6:=zh A60;clear A60
     by_cases c7 : t103<0
     ·
      rw [if_pos c7] at H
      have c7b0 : decide (t103<0)=true:=decide_eq_true c7;clear c7;obtain rfl:=zU H;have p102 : 0≤(x5_1 : Int):=zy (by first|(with_reducible assumption)|assumption);have q102 : x5_1<(l0.length : Int):=zy (by first|(with_reducible assumption)|assumption);obtain ⟨ad102,e102,hx102_0,hx102_1⟩:=at_T47 HR0.out x5_1 p102 q102
      cases e102
      replace hx102_0:=(HB.out.cell (zl w _ hx102_0)).trans hx102_0;replace hx102_1:=(HB.out.cell (zl w _ hx102_1)).trans hx102_1;replace p102:=eq_true p102;replace q102:=eq_true q102
      go_wp2_with (first|((with_reducible refine zJ (f:=20) rfl ?_);refine yj (some 23) rfl rfl Try.func20 (by kernel_rfl) rfl #[.agg #[.string ((rd_T47 l0 x5_1).f0),.int .i64 ((rd_T47 l0 x5_1).f1)],.int .i64 x1_1] rfl (by (try simp only [zt,zu,zv]);first|done|rfl|(simp only [zw,zx];rfl)|(simp only [yr,ys,zV,zW];rfl)) ?_;(with_reducible refine (Fm.calls  ((rd_T47 l0 x5_1).f0) ((rd_T47 l0 x5_1).f1) x1_1 t103 _ A6.out).mono ?_);rintro e w8 ⟨rfl,hb⟩;refine ⟨_,rfl,?_⟩;replace HB:=zh (zC (by repeat (with_reducible first|exact HB.out|apply za|apply zb|apply zc)) hb);(try clear hb);(try clear hb2);(try clear hk);(try clear hi)))
      go_ret
      exact ⟨by first|rfl|(simp [yt,yu] <;> rfl)|(simp [*,yt,yu] <;> rfl),by repeat (with_reducible first|exact HB.out|apply za|apply zb|apply zc)⟩
     rw [if_neg c7] at H;have c7b0 : decide (t103<0)=false:=decide_eq_false c7;clear c7;have H':=zh H;clear H;have p102 : 0≤(x5_1 : Int):=zy (by first|(with_reducible assumption)|assumption);have q102 : x5_1<(l0.length : Int):=zy (by first|(with_reducible assumption)|assumption);obtain ⟨ad102,e102,hx102_0,hx102_1⟩:=at_T47 HR0.out x5_1 p102 q102
     cases e102
     replace hx102_0:=(HB.out.cell (zl w _ hx102_0)).trans hx102_0;replace hx102_1:=(HB.out.cell (zl w _ hx102_1)).trans hx102_1;replace p102:=eq_true p102;replace q102:=eq_true q102
     go_wp2_with (first|((with_reducible refine zJ (f:=20) rfl ?_);refine yj (some 23) rfl rfl Try.func20 (by kernel_rfl) rfl #[.agg #[.string ((rd_T47 l0 x5_1).f0),.int .i64 ((rd_T47 l0 x5_1).f1)],.int .i64 x1_1] rfl (by (try simp only [zt,zu,zv]);first|done|rfl|(simp only [zw,zx];rfl)|(simp only [yr,ys,zV,zW];rfl)) ?_;(with_reducible refine (Fm.calls  ((rd_T47 l0 x5_1).f0) ((rd_T47 l0 x5_1).f1) x1_1 t103 _ A6.out).mono ?_);rintro e w9 ⟨rfl,hb⟩;refine ⟨_,rfl,?_⟩;replace HB:=zh (zC (by repeat (with_reducible first|exact HB.out|apply za|apply zb|apply zc)) hb);(try clear hb);(try clear hb2);(try clear hk);(try clear hi)))
     go_roundg k1
     case measure => have:=HK1.out;omega
     case rel => exact ⟨(t103),(wrap64 (x5_1 + 1)),(by first|rfl|(simp;done)|(simp [*];done)),(by first|rfl|(simp;done)|(simp [*];done)),H',⟨by have:=HK1.out;omega⟩,⟨by repeat (with_reducible first|exact HB.out|apply za|apply zb|apply zc)⟩⟩
    rw [if_neg c5] at H;exact absurd H (by simp)
   rw [if_neg c4] at H;have c4b0 : decide (x5_1<(l0.length : Int))=false:=decide_eq_false c4;clear c4;obtain rfl:=zU H
   go_wp2
   go_ret
   exact ⟨by first|rfl|(simp [yt,yu] <;> rfl)|(simp [*,yt,yu] <;> rfl),by repeat (with_reducible first|exact HB.out|apply za|apply zb|apply zc)⟩


def Ff.f (k : Nat) (a0_0 : Int) (l0_1 : List (S47)) (a1 : Int) : Option (Int):=(Fu.f k l0_1 a1).bind fun t105 => (if t105<0 then (some (-1)) else (some t105))
theorem Ff.mono : ∀ a0 a1 a2 k,LeO (Ff.f k a0 a1 a2) (Ff.f (k + 1) a0 a1 a2):=by
 intro a0 a1 a2 k;unfold Ff.f
 repeat' first|(with_reducible first|exact Fu.mono _ _ _|exact zQ _|exact zN _|refine zP ?_ ?_|refine zO ?_ (fun _ => ?_))|refine zP ?_ ?_|refine zO ?_ (fun _ => ?_)
set_option maxHeartbeats 8000000 in
set_option maxRecDepth 100000 in
theorem Ff.calls (k : Nat) (a0_0 : Int) (A0_1 : Option Addr) (c0_1 : Nat) (l0_1 : List (S47)) (a1 : Int) (r : Int) (w : World) (hr0_1 : Kd.C k47 w A0_1 l0_1.length l0_1) (hc0_1 : l0_1.length≤c0_1) (h : Ff.f k a0_0 l0_1 a1=some r) :
  Calls Try.prog 50 #[.agg #[.int .i64 a0_0,.slice A0_1 l0_1.length c0_1],.int .i64 a1] w fun e w' => e = .returned (.int .i64 r)∧Below w.heap.size w w':=by
 have hu79:=Try.underlying79;have HR0_1:=zh hr0_1;have HC0_1:=zh hc0_1;clear hr0_1 hc0_1;have HB:=zh (Below.refl w.heap.size w);have H : ((Fu.f k l0_1 a1).bind fun t105 => (if t105<0 then (some (-1)) else (some t105)))=some r:=h;clear h;replace H:=zT.mp H;obtain ⟨t105,A30,H⟩:=H;replace H : (if t105<0 then (some (-1)) else (some t105))=some r:=H;have A3:=zh A30;clear A30
 by_cases c4 : t105<0
 ·
  rw [if_pos c4] at H
  have c4b0 : decide (t105<0)=true:=decide_eq_true c4;clear c4;obtain rfl:=zU H
  go_enter Try.func50,Try.ntmps50
  go_wp2_with (first|((with_reducible refine zK (N:=2) rfl ?_);refine zI ?hg (N:=2) ?hd (cs:=#[.int .i64 a0_0,.slice A0_1 l0_1.length c0_1]) (t:=79) ?hr ?_;(case hd|hg => rfl);(case hr => go_simp <;> rfl);intro gb104 hg w5 hbox hb;have BK104:=zh (hbox);have hH_:=cH (by repeat (with_reducible first|exact HB.out|apply za|apply zb|apply zc)) hb hg;have GW104:=zh hH_.1;have GE104:=GW104;replace HB:=zh hH_.2;clear hb hbox hg hH_;obtain ⟨hcz6_0,hcz6_1,hfz6_0,hfz6_1⟩:=cB2 BK104.out)|((with_reducible refine zJ (f:=67) rfl ?_);refine yj (some 8) rfl rfl Try.func67 (by kernel_rfl) rfl #[.slice A0_1 l0_1.length c0_1,.int .i64 a1] rfl (by (try simp only [zt,zu,zv]);first|done|rfl|(simp only [zw,zx];rfl)|(simp only [yr,ys,zV,zW];rfl)) ?_;(with_reducible refine (Fu.calls k  _ _ l0_1 a1 t105 _ ?side1 ?side2 A3.out).mono ?_);(case side1 => repeat (first|exact (Kd.C_below HR0_1.out HB.out)|(with_reducible refine Kd.C_alloc ?_ _)|(with_reducible refine Kd.C_drewN ?_ _)|(with_reducible refine Kd.C_drew ?_)));(case side2 => exact HC0_1.out);rintro e w7 ⟨rfl,hb⟩;refine ⟨_,rfl,?_⟩;replace BK104:=zh (cD BK104.out (by (with_reducible repeat first|apply ze|apply zf|apply zg);exact BK104.out) hb);replace HB:=zh (zC (by repeat (with_reducible first|exact HB.out|apply za|apply zb|apply zc|refine zd ?_ GE104.out)) hb);(try clear hb);(try clear hb2);(try clear hk);(try clear hi)))
  go_ret
  exact ⟨by first|rfl|(simp [yt,yu] <;> rfl)|(simp [*,yt,yu] <;> rfl),by repeat (with_reducible first|exact HB.out|apply za|apply zb|apply zc|refine zd ?_ GE104.out)⟩
 rw [if_neg c4] at H;have c4b0 : decide (t105<0)=false:=decide_eq_false c4;clear c4;obtain rfl:=zU H
 go_enter Try.func50,Try.ntmps50
 go_wp2_with (first|((with_reducible refine zK (N:=2) rfl ?_);refine zI ?hg (N:=2) ?hd (cs:=#[.int .i64 a0_0,.slice A0_1 l0_1.length c0_1]) (t:=79) ?hr ?_;(case hd|hg => rfl);(case hr => go_simp <;> rfl);intro gb104 hg w8 hbox hb;have BK104:=zh (hbox);have hH_:=cH (by repeat (with_reducible first|exact HB.out|apply za|apply zb|apply zc)) hb hg;have GW104:=zh hH_.1;have GE104:=GW104;replace HB:=zh hH_.2;clear hb hbox hg hH_;obtain ⟨hcz9_0,hcz9_1,hfz9_0,hfz9_1⟩:=cB2 BK104.out)|((with_reducible refine zJ (f:=67) rfl ?_);refine yj (some 8) rfl rfl Try.func67 (by kernel_rfl) rfl #[.slice A0_1 l0_1.length c0_1,.int .i64 a1] rfl (by (try simp only [zt,zu,zv]);first|done|rfl|(simp only [zw,zx];rfl)|(simp only [yr,ys,zV,zW];rfl)) ?_;(with_reducible refine (Fu.calls k  _ _ l0_1 a1 t105 _ ?side1 ?side2 A3.out).mono ?_);(case side1 => repeat (first|exact (Kd.C_below HR0_1.out HB.out)|(with_reducible refine Kd.C_alloc ?_ _)|(with_reducible refine Kd.C_drewN ?_ _)|(with_reducible refine Kd.C_drew ?_)));(case side2 => exact HC0_1.out);rintro e w10 ⟨rfl,hb⟩;refine ⟨_,rfl,?_⟩;replace BK104:=zh (cD BK104.out (by (with_reducible repeat first|apply ze|apply zf|apply zg);exact BK104.out) hb);replace HB:=zh (zC (by repeat (with_reducible first|exact HB.out|apply za|apply zb|apply zc|refine zd ?_ GE104.out)) hb);(try clear hb);(try clear hb2);(try clear hk);(try clear hi)))
 go_ret
 exact ⟨by first|rfl|(simp [yt,yu] <;> rfl)|(simp [*,yt,yu] <;> rfl),by repeat (with_reducible first|exact HB.out|apply za|apply zb|apply zc|refine zd ?_ GE104.out)⟩


def Fv.l0 : Nat→List (S79)→Int→Int→Option (Int)
 | 0,_,_,_ => none
 | k + 1,x0,x1,x5 => if x5<(x0.length : Int) then (if 0≤x5 then ((Ff.f k ((rd_T79 x0 x5).f0) ((rd_T79 x0 x5).f1) x1).bind fun t107 => (if t107<0 then (some (-1)) else (Fv.l0 k x0 t107 (wrap64 (x5 + 1))))) else (none)) else (some x1)
def Fv.f (k : Nat) (l0 : List (S79)) (a1 : Int) : Option (Int):=if (wrap64 (a1 - (l0.length : Int)))<0 then (some (-1)) else (Fv.l0 k l0 (wrap64 (a1 - (l0.length : Int))) 0)
theorem Fv.mono_l : ∀ k,(∀ y0 y1 y2,LeO (Fv.l0 k y0 y1 y2) (Fv.l0 (k + 1) y0 y1 y2))
 | 0 => fun _ _ _ r h => by simp [Fv.l0] at h
 | k + 1 => by
  have ih0:=Fv.mono_l k;intro y0 y1 y2;unfold Fv.l0
  repeat' first|(with_reducible first|exact ih0 _ _ _|exact Ff.mono _ _ _ _|exact zQ _|exact zN _|refine zP ?_ ?_|refine zO ?_ (fun _ => ?_))|refine zP ?_ ?_|refine zO ?_ (fun _ => ?_)
theorem Fv.mono : ∀ a0 a1 k,LeO (Fv.f k a0 a1) (Fv.f (k + 1) a0 a1):=by
 intro a0 a1 k;have ih0:=Fv.mono_l k;unfold Fv.f
 repeat' first|(with_reducible first|exact ih0 _ _ _|exact Ff.mono _ _ _ _|exact zQ _|exact zN _|refine zP ?_ ?_|refine zO ?_ (fun _ => ?_))|refine zP ?_ ?_|refine zO ?_ (fun _ => ?_)
set_option maxHeartbeats 8000000 in
set_option maxRecDepth 100000 in
theorem Fv.calls (k : Nat) (A0 : Option Addr) (c0 : Nat) (l0 : List (S79)) (a1 : Int) (r : Int) (w : World) (hr0 : Kd.C k79 w A0 l0.length l0) (hc0 : l0.length≤c0) (h : Fv.f k l0 a1=some r) :
  Calls Try.prog 27 #[.slice A0 l0.length c0,.int .i64 a1] w fun e w' => e = .returned (.int .i64 r)∧Below w.heap.size w w':=by
 have hu79:=Try.underlying79;have HR0:=zh hr0;have HC0:=zh hc0;clear hr0 hc0;have HB:=zh (Below.refl w.heap.size w);have H : (if (wrap64 (a1 - (l0.length : Int)))<0 then (some (-1)) else (Fv.l0 k l0 (wrap64 (a1 - (l0.length : Int))) 0))=some r:=h;clear h
 by_cases c3 : (wrap64 (a1 - (l0.length : Int)))<0
 ·
  rw [if_pos c3] at H
  have c3b0 : decide ((wrap64 (a1 - (l0.length : Int)))<0)=true:=decide_eq_true c3;clear c3;obtain rfl:=zU H
  go_enter Try.func27,Try.ntmps27
  go_wp2
  go_ret
  exact ⟨by first|rfl|(simp [yt,yu] <;> rfl)|(simp [*,yt,yu] <;> rfl),by repeat (with_reducible first|exact HB.out|apply za|apply zb|apply zc)⟩
 rw [if_neg c3] at H;have c3b0 : decide ((wrap64 (a1 - (l0.length : Int)))<0)=false:=decide_eq_false c3;clear c3;have H':=zh H;clear H
 go_enter Try.func27,Try.ntmps27
 go_wp2
 go_loopg [1,5] k (fun kq v1 v5 w' => ∃ (x1_1 : Int) (x5_1 : Int),v1 = .int .i64 x1_1∧v5 = .int .i64 x5_1∧Aside0 (Fv.l0 kq l0 x1_1 x5_1=some r)∧Aside0 (kq≤k)∧Aside0 (Below w.heap.size w w'))
 case atStart => exact ⟨(wrap64 (a1 - (l0.length : Int))),(0),(by first|rfl|(simp;done)|(simp [*];done)),(by first|rfl|(simp;done)|(simp [*];done)),H',⟨ye _⟩,⟨by repeat (with_reducible first|exact HB.out|apply za|apply zb|apply zc)⟩⟩
 case round =>
  clear H'
  try clear c2
  try clear p2
  try clear c3 c3b0
  obtain ⟨x1_1,x5_1,rfl,rfl,HA,HK1,HB⟩:=hrel
  cases gk with
  | zero => exact absurd HA.out (by simp [Fv.l0])
  | succ k1 =>
   have H:=HA.out;clear HA;simp only [Fv.l0] at H
   by_cases c4 : x5_1<(l0.length : Int)
   ·
    rw [if_pos c4] at H
    have c4b0 : decide (x5_1<(l0.length : Int))=true:=decide_eq_true c4;clear c4
    by_cases c5 : 0≤x5_1
    ·
     rw [if_pos c5] at H
     have c5b0 : decide (0≤x5_1)=true:=decide_eq_true c5;clear c5;replace H:=zT.mp H;obtain ⟨t107,A60,H⟩:=H;replace H : (if t107<0 then (some (-1)) else (Fv.l0 k1 l0 t107 (wrap64 (x5_1 + 1))))=some r:=H;have A6:=zh A60;clear A60
     by_cases c7 : t107<0
     ·
      rw [if_pos c7] at H
      have c7b0 : decide (t107<0)=true:=decide_eq_true c7;clear c7;obtain rfl:=zU H;have p106 : 0≤(x5_1 : Int):=zy (by first|(with_reducible assumption)|assumption);have q106 : x5_1<(l0.length : Int):=zy (by first|(with_reducible assumption)|assumption);obtain ⟨ad106,A106_1,c106_1,e106,hx106_0,hx106_1,hl106_1,hi106_1⟩:=at_T79 HR0.out x5_1 p106 q106
      cases e106
      replace hx106_0:=(HB.out.cell (zl w _ hx106_0)).trans hx106_0;replace hx106_1:=(HB.out.cell (zl w _ hx106_1)).trans hx106_1;have HR106_1:=zh hi106_1;have HC106_1:=zh hl106_1;clear hi106_1 hl106_1;replace p106:=eq_true p106;replace q106:=eq_true q106
      go_wp2_with (first|((with_reducible refine zJ (f:=50) rfl ?_);refine yj (some 23) rfl rfl Try.func50 (by kernel_rfl) rfl #[.agg #[.int .i64 ((rd_T79 l0 x5_1).f0),.slice A106_1 ((rd_T79 l0 x5_1).f1).length c106_1],.int .i64 x1_1] rfl (by (try simp only [zt,zu,zv]);first|done|rfl|(simp only [zw,zx];rfl)|(simp only [yr,ys,zV,zW];rfl)) ?_;(with_reducible refine (Ff.calls k1  ((rd_T79 l0 x5_1).f0) _ _ ((rd_T79 l0 x5_1).f1) x1_1 t107 _ ?side1 ?side2 A6.out).mono ?_);(case side1 => repeat (first|exact (Kd.C_below HR106_1.out HB.out)|(with_reducible refine Kd.C_alloc ?_ _)|(with_reducible refine Kd.C_drewN ?_ _)|(with_reducible refine Kd.C_drew ?_)));(case side2 => exact HC106_1.out);rintro e w8 ⟨rfl,hb⟩;refine ⟨_,rfl,?_⟩;replace HB:=zh (zC (by repeat (with_reducible first|exact HB.out|apply za|apply zb|apply zc)) hb);(try clear hb);(try clear hb2);(try clear hk);(try clear hi)))
      go_ret
      exact ⟨by first|rfl|(simp [yt,yu] <;> rfl)|(simp [*,yt,yu] <;> rfl),by repeat (with_reducible first|exact HB.out|apply za|apply zb|apply zc)⟩
     rw [if_neg c7] at H;have c7b0 : decide (t107<0)=false:=decide_eq_false c7;clear c7;have H':=zh H;clear H;have p106 : 0≤(x5_1 : Int):=zy (by first|(with_reducible assumption)|assumption);have q106 : x5_1<(l0.length : Int):=zy (by first|(with_reducible assumption)|assumption);obtain ⟨ad106,A106_1,c106_1,e106,hx106_0,hx106_1,hl106_1,hi106_1⟩:=at_T79 HR0.out x5_1 p106 q106
     cases e106
     replace hx106_0:=(HB.out.cell (zl w _ hx106_0)).trans hx106_0;replace hx106_1:=(HB.out.cell (zl w _ hx106_1)).trans hx106_1;have HR106_1:=zh hi106_1;have HC106_1:=zh hl106_1;clear hi106_1 hl106_1;replace p106:=eq_true p106;replace q106:=eq_true q106
     go_wp2_with (first|((with_reducible refine zJ (f:=50) rfl ?_);refine yj (some 23) rfl rfl Try.func50 (by kernel_rfl) rfl #[.agg #[.int .i64 ((rd_T79 l0 x5_1).f0),.slice A106_1 ((rd_T79 l0 x5_1).f1).length c106_1],.int .i64 x1_1] rfl (by (try simp only [zt,zu,zv]);first|done|rfl|(simp only [zw,zx];rfl)|(simp only [yr,ys,zV,zW];rfl)) ?_;(with_reducible refine (Ff.calls k1  ((rd_T79 l0 x5_1).f0) _ _ ((rd_T79 l0 x5_1).f1) x1_1 t107 _ ?side1 ?side2 A6.out).mono ?_);(case side1 => repeat (first|exact (Kd.C_below HR106_1.out HB.out)|(with_reducible refine Kd.C_alloc ?_ _)|(with_reducible refine Kd.C_drewN ?_ _)|(with_reducible refine Kd.C_drew ?_)));(case side2 => exact HC106_1.out);rintro e w9 ⟨rfl,hb⟩;refine ⟨_,rfl,?_⟩;replace HB:=zh (zC (by repeat (with_reducible first|exact HB.out|apply za|apply zb|apply zc)) hb);(try clear hb);(try clear hb2);(try clear hk);(try clear hi)))
     go_roundg k1
     case measure => have:=HK1.out;omega
     case rel => exact ⟨(t107),(wrap64 (x5_1 + 1)),(by first|rfl|(simp;done)|(simp [*];done)),(by first|rfl|(simp;done)|(simp [*];done)),H',⟨by have:=HK1.out;omega⟩,⟨by repeat (with_reducible first|exact HB.out|apply za|apply zb|apply zc)⟩⟩
    rw [if_neg c5] at H;exact absurd H (by simp)
   rw [if_neg c4] at H;have c4b0 : decide (x5_1<(l0.length : Int))=false:=decide_eq_false c4;clear c4;obtain rfl:=zU H
   go_wp2
   go_ret
   exact ⟨by first|rfl|(simp [yt,yu] <;> rfl)|(simp [*,yt,yu] <;> rfl),by repeat (with_reducible first|exact HB.out|apply za|apply zb|apply zc)⟩


def F07.f (k : Nat) (l0_0 : List (S79)) (a0_1 : Int) (a1 : Int) : Option (Int):=(Fv.f k l0_0 a1).bind fun t109 => (if t109<0 then (some (-1)) else (some t109))
theorem F07.mono : ∀ a0 a1 a2 k,LeO (F07.f k a0 a1 a2) (F07.f (k + 1) a0 a1 a2):=by
 intro a0 a1 a2 k;unfold F07.f
 repeat' first|(with_reducible first|exact Fv.mono _ _ _|exact zQ _|exact zN _|refine zP ?_ ?_|refine zO ?_ (fun _ => ?_))|refine zP ?_ ?_|refine zO ?_ (fun _ => ?_)
set_option maxHeartbeats 8000000 in
set_option maxRecDepth 100000 in
theorem F07.calls (k : Nat) (A0_0 : Option Addr) (c0_0 : Nat) (l0_0 : List (S79)) (a0_1 : Int) (a1 : Int) (r : Int) (w : World) (hr0_0 : Kd.C k79 w A0_0 l0_0.length l0_0) (hc0_0 : l0_0.length≤c0_0) (h : F07.f k l0_0 a0_1 a1=some r) :
  Calls Try.prog 6 #[.agg #[.slice A0_0 l0_0.length c0_0,.int .i64 a0_1],.int .i64 a1] w fun e w' => e = .returned (.int .i64 r)∧Below w.heap.size w w':=by
 have hu24:=Try.underlying24;have HR0_0:=zh hr0_0;have HC0_0:=zh hc0_0;clear hr0_0 hc0_0;have HB:=zh (Below.refl w.heap.size w);have H : ((Fv.f k l0_0 a1).bind fun t109 => (if t109<0 then (some (-1)) else (some t109)))=some r:=h;clear h;replace H:=zT.mp H;obtain ⟨t109,A30,H⟩:=H;replace H : (if t109<0 then (some (-1)) else (some t109))=some r:=H;have A3:=zh A30;clear A30
 by_cases c4 : t109<0
 ·
  rw [if_pos c4] at H
  have c4b0 : decide (t109<0)=true:=decide_eq_true c4;clear c4;obtain rfl:=zU H
  go_enter Try.func6,Try.ntmps6
  go_wp2_with (first|((with_reducible refine zK (N:=2) rfl ?_);refine zI ?hg (N:=2) ?hd (cs:=#[.slice A0_0 l0_0.length c0_0,.int .i64 a0_1]) (t:=24) ?hr ?_;(case hd|hg => rfl);(case hr => go_simp <;> rfl);intro gb108 hg w5 hbox hb;have BK108:=zh (hbox);have hH_:=cH (by repeat (with_reducible first|exact HB.out|apply za|apply zb|apply zc)) hb hg;have GW108:=zh hH_.1;have GE108:=GW108;replace HB:=zh hH_.2;clear hb hbox hg hH_;obtain ⟨hcz6_0,hcz6_1,hfz6_0,hfz6_1⟩:=cB2 BK108.out)|((with_reducible refine zJ (f:=27) rfl ?_);refine yj (some 8) rfl rfl Try.func27 (by kernel_rfl) rfl #[.slice A0_0 l0_0.length c0_0,.int .i64 a1] rfl (by (try simp only [zt,zu,zv]);first|done|rfl|(simp only [zw,zx];rfl)|(simp only [yr,ys,zV,zW];rfl)) ?_;(with_reducible refine (Fv.calls k  _ _ l0_0 a1 t109 _ ?side1 ?side2 A3.out).mono ?_);(case side1 => repeat (first|exact (Kd.C_below HR0_0.out HB.out)|(with_reducible refine Kd.C_alloc ?_ _)|(with_reducible refine Kd.C_drewN ?_ _)|(with_reducible refine Kd.C_drew ?_)));(case side2 => exact HC0_0.out);rintro e w7 ⟨rfl,hb⟩;refine ⟨_,rfl,?_⟩;replace BK108:=zh (cD BK108.out (by (with_reducible repeat first|apply ze|apply zf|apply zg);exact BK108.out) hb);replace HB:=zh (zC (by repeat (with_reducible first|exact HB.out|apply za|apply zb|apply zc|refine zd ?_ GE108.out)) hb);(try clear hb);(try clear hb2);(try clear hk);(try clear hi)))
  go_ret
  exact ⟨by first|rfl|(simp [yt,yu] <;> rfl)|(simp [*,yt,yu] <;> rfl),by repeat (with_reducible first|exact HB.out|apply za|apply zb|apply zc|refine zd ?_ GE108.out)⟩
 rw [if_neg c4] at H;have c4b0 : decide (t109<0)=false:=decide_eq_false c4;clear c4;obtain rfl:=zU H
 go_enter Try.func6,Try.ntmps6
 go_wp2_with (first|((with_reducible refine zK (N:=2) rfl ?_);refine zI ?hg (N:=2) ?hd (cs:=#[.slice A0_0 l0_0.length c0_0,.int .i64 a0_1]) (t:=24) ?hr ?_;(case hd|hg => rfl);(case hr => go_simp <;> rfl);intro gb108 hg w8 hbox hb;have BK108:=zh (hbox);have hH_:=cH (by repeat (with_reducible first|exact HB.out|apply za|apply zb|apply zc)) hb hg;have GW108:=zh hH_.1;have GE108:=GW108;replace HB:=zh hH_.2;clear hb hbox hg hH_;obtain ⟨hcz9_0,hcz9_1,hfz9_0,hfz9_1⟩:=cB2 BK108.out)|((with_reducible refine zJ (f:=27) rfl ?_);refine yj (some 8) rfl rfl Try.func27 (by kernel_rfl) rfl #[.slice A0_0 l0_0.length c0_0,.int .i64 a1] rfl (by (try simp only [zt,zu,zv]);first|done|rfl|(simp only [zw,zx];rfl)|(simp only [yr,ys,zV,zW];rfl)) ?_;(with_reducible refine (Fv.calls k  _ _ l0_0 a1 t109 _ ?side1 ?side2 A3.out).mono ?_);(case side1 => repeat (first|exact (Kd.C_below HR0_0.out HB.out)|(with_reducible refine Kd.C_alloc ?_ _)|(with_reducible refine Kd.C_drewN ?_ _)|(with_reducible refine Kd.C_drew ?_)));(case side2 => exact HC0_0.out);rintro e w10 ⟨rfl,hb⟩;refine ⟨_,rfl,?_⟩;replace BK108:=zh (cD BK108.out (by (with_reducible repeat first|apply ze|apply zf|apply zg);exact BK108.out) hb);replace HB:=zh (zC (by repeat (with_reducible first|exact HB.out|apply za|apply zb|apply zc|refine zd ?_ GE108.out)) hb);(try clear hb);(try clear hb2);(try clear hk);(try clear hi)))
 go_ret
 exact ⟨by first|rfl|(simp [yt,yu] <;> rfl)|(simp [*,yt,yu] <;> rfl),by repeat (with_reducible first|exact HB.out|apply za|apply zb|apply zc|refine zd ?_ GE108.out)⟩

end Go.Proofs.Ytamikhmpfmgofaa.Q
end

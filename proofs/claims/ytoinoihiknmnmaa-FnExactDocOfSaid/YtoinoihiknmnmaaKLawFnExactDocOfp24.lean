/- Texts of this claim, merged by a program of this session. -/
import Derived.Test.YtoinoihiknmnmaaKLawFnExactDocOfp23
section
namespace Go.Proofs.Ytoinoihiknmnmaa.Q
open Go.RowKit Go.Proofs.YtoinoihiknmnmaaW.PrintWords Go.Proofs.YtoinoihiknmnmaaW.PrintLast Go.Proofs.YtoinoihiknmnmaaW.PrintMore
attribute [local go_sem] max2_int min2_int max_two min_two max_three min_three max_four min_four max2_str min2_str str_geq str_gtr str_leq
set_option linter.unusedVariables false
set_option linter.unusedSimpArgs false

def Fa.f (a0_0 : ByteArray) (a0_1 : Int) (a0_2 : Int) (a0_3 : ByteArray) : Option (ByteArray×Int×Int×ByteArray):=(F0i.f a0_1 a0_2 a0_3).bind fun bt197=>(some (a0_0,bt197.1,bt197.2.1,bt197.2.2))
set_option maxHeartbeats 8000000 in
set_option maxRecDepth 100000 in
theorem Fa.calls (a0_0 : ByteArray) (a0_1 : Int) (a0_2 : Int) (a0_3 : ByteArray) (r1 : ByteArray) (r2 : Int) (r3 : Int) (r4 : ByteArray) (w : World) (h : Fa.f a0_0 a0_1 a0_2 a0_3=some (r1,r2,r3,r4)) :
  Calls Try.prog 23 #[.agg #[.string a0_0,.int .i64 a0_1,.int .i64 a0_2,.string a0_3]] w fun e w' => e = .returned (.agg #[.string r1,.int .i64 r2,.int .i64 r3,.string r4])∧Below w.heap.size w w':=by
 have hu50:=Try.underlying50;have hu43:=Try.underlying43;have hu48:=Try.underlying48;have hu25:=Try.underlying25;have HB:=zh (Below.refl w.heap.size w);have H : ((F0i.f a0_1 a0_2 a0_3).bind fun bt197=>(some (a0_0,bt197.1,bt197.2.1,bt197.2.2)))=some (r1,r2,r3,r4):=h;clear h;replace H:=zT.mp H;obtain ⟨⟨t197,t198,t199⟩,A20,H⟩:=H;replace H : (some (a0_0,t197,t198,t199))=some (r1,r2,r3,r4):=H;have A2:=zh A20;clear A20;simp only [Option.some.injEq,Prod.mk.injEq] at H;obtain ⟨rfl,rfl,rfl,rfl⟩:=H
 go_enter Try.func23,Try.ntmps23
 go_wp2_with (first|((with_reducible refine zK (N:=1) rfl ?_);refine zI ?hg (N:=1) ?hd (cs:=#[.string a0_0,.int .i64 a0_1,.int .i64 a0_2,.string a0_3]) (t:=50) ?hr ?_;(case hd=>rfl);(case hg=>rfl);(case hr=>go_simp <;> rfl);intro gb194 hg w3 hbox hb;have BK194:=zh (hbox);have hH_:=cH (by repeat (with_reducible first|exact HB.out|apply za|apply zb|apply zc)) hb hg;have GW194:=zh hH_.1;have GE194:=GW194;replace HB:=zh hH_.2;clear hb hbox hg hH_)|((with_reducible refine zK (N:=2) rfl ?_);refine zI ?hg (N:=2) ?hd (cs:=#[.string (⟨#[]⟩ : ByteArray),.int .i64 0,.int .i64 0,.string (⟨#[]⟩ : ByteArray)]) (t:=43) ?hr ?_;(case hd=>rfl);(case hg=>rfl);(case hr=>go_simp <;> rfl);intro gb195 hg w4 hbox hb;have BK195:=zh (hbox);have hH_:=cH (by repeat (with_reducible first|exact HB.out|apply za|apply zb|apply zc|refine zd ?_ GE194.out)) hb hg;have GW195:=zh hH_.1;have GE195:=GW195;replace HB:=zh hH_.2;have NB194_195:=zh ((by rw [hg];exact yc (yi (g:=gb194) (o:=.cells #[.string a0_0,.int .i64 a0_1,.int .i64 a0_2,.string a0_3] 50 (0,0)) (by (with_reducible repeat first|apply ze|apply zf|apply zg);exact BK194.out)) : gb194≠gb195));have NB195_194:=zh NB194_195.out.symm;replace BK194:=zh (cD BK194.out (by (with_reducible repeat first|apply ze|apply zf|apply zg);exact BK194.out) hb);clear hb hbox hg hH_)|((with_reducible refine zK (N:=3) rfl ?_);refine zI ?hg (N:=3) ?hd (cs:=#[.string (⟨#[]⟩ : ByteArray),.int .i64 0,.int .i64 0,.string (⟨#[]⟩ : ByteArray)]) (t:=43) ?hr ?_;(case hd=>rfl);(case hg=>rfl);(case hr=>go_simp <;> rfl);intro gb196 hg w5 hbox hb;have BK196:=zh (hbox);have hH_:=cH (by repeat (with_reducible first|exact HB.out|apply za|apply zb|apply zc|refine zd ?_ GE194.out|refine zd ?_ GE195.out)) hb hg;have GW196:=zh hH_.1;have GE196:=GW196;replace HB:=zh hH_.2;have NB194_196:=zh ((by rw [hg];exact yc (yi (g:=gb194) (o:=.cells #[.string a0_0,.int .i64 a0_1,.int .i64 a0_2,.string a0_3] 50 (0,0)) (by (with_reducible repeat first|apply ze|apply zf|apply zg);exact BK194.out)) : gb194≠gb196));have NB196_194:=zh NB194_196.out.symm;replace BK194:=zh (cD BK194.out (by (with_reducible repeat first|apply ze|apply zf|apply zg);exact BK194.out) hb);have NB195_196:=zh ((by rw [hg];exact yc (yi (g:=gb195) (o:=.cells #[.string (⟨#[]⟩ : ByteArray),.int .i64 0,.int .i64 0,.string (⟨#[]⟩ : ByteArray)] 43 (0,0)) (by (with_reducible repeat first|apply ze|apply zf|apply zg);exact BK195.out)) : gb195≠gb196));have NB196_195:=zh NB195_196.out.symm;replace BK195:=zh (cD BK195.out (by (with_reducible repeat first|apply ze|apply zf|apply zg);exact BK195.out) hb);clear hb hbox hg hH_;have hnb6:=NB194_195.out;have hnc6:=NB195_194.out;have hnb7:=NB194_196.out;have hnc7:=NB196_194.out;obtain ⟨hcz8_0,hcz8_1,hcz8_2,hcz8_3,hfz8_0,hfz8_1,hfz8_2,hfz8_3⟩:=cB4 BK194.out;have hnb9:=NB196_195.out;have hnc9:=NB195_196.out;obtain ⟨hcz10_0,hcz10_1,hcz10_2,hcz10_3,hfz10_0,hfz10_1,hfz10_2,hfz10_3⟩:=cB4 BK196.out)|((with_reducible refine zJ (f:=43) rfl ?_);refine yj (some 9) rfl rfl Try.func43 (by kernel_rfl) rfl #[.agg #[.int .i64 a0_1,.int .i64 a0_2,.string a0_3]] rfl (by (try simp only [zt,zu,zv]);first|done|rfl|(simp only [zw,zx];rfl)|(simp only [yr,ys,zV,zW];rfl)) ?_;(with_reducible refine (F0i.calls  a0_1 a0_2 a0_3 t197 t198 t199 _ A2.out).mono ?_);rintro e w11 ⟨rfl,hb⟩;refine ⟨_,rfl,?_⟩;replace BK194:=zh (cD BK194.out (by (with_reducible repeat first|apply ze|apply zf|apply zg);refine zS ?_ NB194_196.out _;(with_reducible repeat first|apply ze|apply zf|apply zg);exact BK194.out) hb);replace BK195:=zh (cD BK195.out (by (with_reducible repeat first|apply ze|apply zf|apply zg);refine zS ?_ NB195_196.out _;(with_reducible repeat first|apply ze|apply zf|apply zg);exact BK195.out) hb);replace BK196:=zh (zD (g:=gb196) (o:=.cells #[.string a0_0,.int .i64 0,.int .i64 0,.string (⟨#[]⟩ : ByteArray)] 43 (0,0)) (by (with_reducible repeat first|apply ze|apply zf|apply zg);refine zL (cs:=#[.string (⟨#[]⟩ : ByteArray),.int .i64 0,.int .i64 0,.string (⟨#[]⟩ : ByteArray)]) ?_ 0 _ rfl;(with_reducible repeat first|apply ze|apply zf|apply zg);exact BK196.out) hb);replace HB:=zh (zC (by repeat (with_reducible first|exact HB.out|apply za|apply zb|apply zc|refine zd ?_ GE194.out|refine zd ?_ GE195.out|refine zd ?_ GE196.out)) hb);(try clear hb);(try clear hb2);(try clear hk);(try clear hi);obtain ⟨hcz12_0,hcz12_1,hcz12_2,hcz12_3,hfz12_0,hfz12_1,hfz12_2,hfz12_3⟩:=cB4 BK196.out;obtain ⟨hcz13_0,hcz13_1,hcz13_2,hcz13_3,hfz13_0,hfz13_1,hfz13_2,hfz13_3⟩:=cB4 BK195.out))
 refine bodyPost_ret (results_cell_row rfl _ _ gb195 43 #[.string a0_0,.int .i64 t197,.int .i64 t198,.string t199] (0,0) _ rfl (by (with_reducible repeat first|apply ze|apply zf|apply zg);refine zL (cs:=#[.string a0_0,.int .i64 t197,.int .i64 t198,.string (⟨#[]⟩ : ByteArray)]) ?_ 3 _ rfl;(with_reducible repeat first|apply ze|apply zf|apply zg);refine zL (cs:=#[.string a0_0,.int .i64 t197,.int .i64 0,.string (⟨#[]⟩ : ByteArray)]) ?_ 2 _ rfl;(with_reducible repeat first|apply ze|apply zf|apply zg);refine zL (cs:=#[.string a0_0,.int .i64 0,.int .i64 0,.string (⟨#[]⟩ : ByteArray)]) ?_ 1 _ rfl;(with_reducible repeat first|apply ze|apply zf|apply zg);refine zL (cs:=#[.string (⟨#[]⟩ : ByteArray),.int .i64 0,.int .i64 0,.string (⟨#[]⟩ : ByteArray)]) ?_ 0 _ rfl;(with_reducible repeat first|apply ze|apply zf|apply zg);refine cS3 ?_ NB195_196.out;(with_reducible repeat first|apply ze|apply zf|apply zg);exact BK195.out) Try.underlying43 rfl (by kernel_rfl)) rfl ?_;exact ⟨by first|rfl|(simp [yt,yu] <;> rfl)|(simp [*,yt,yu] <;> rfl),by repeat (with_reducible first|exact HB.out|apply za|apply zb|apply zc|refine zd ?_ GE194.out|refine zd ?_ GE195.out|refine zd ?_ GE196.out)⟩


def Fe.l0 : Nat→List (S50)→List (S43)→Int→Option ((List (S43)))
 | 0,_,_,_=>none
 | k+1,x0,x3,x4=>if x4<(x0.length : Int) then (if 0≤x4 then ((Fa.f ((rd_T50 x0 x4).f0) ((rd_T50 x0 x4).f1.f0) ((rd_T50 x0 x4).f1.f1) ((rd_T50 x0 x4).f1.f2)).bind fun bt204=>(if x4<(x3.length : Int) then (Fe.l0 k x0 (x3.set (x4 : Int).toNat (⟨bt204.1,(⟨bt204.2.1,bt204.2.2.1,bt204.2.2.2⟩ : S25)⟩ : S43)) (wrap64 (x4+1))) else (none))) else (none)) else (some x3)
def Fe.f (k : Nat) (l0 : List (S50)) : Option ((List (S43))):=if 0≤(l0.length : Int) then (if ((l0.length : Int) : Int).toNat≤5864062014805 then (Fe.l0 k l0 (List.replicate ((l0.length : Int) : Int).toNat z43) 0) else (none)) else (none)
theorem Fe.mono_l : ∀ k,(∀ y0 y1 y2,LeO (Fe.l0 k y0 y1 y2) (Fe.l0 (k+1) y0 y1 y2))
 | 0=>fun _ _ _ r h=>by simp [Fe.l0] at h
 | k+1=>by
  have ih0:=Fe.mono_l k;intro y0 y1 y2;unfold Fe.l0
  repeat' first|(with_reducible first|exact ih0 _ _ _|exact zQ _|exact zN _|refine zP ?_ ?_|refine zO ?_ (fun _=>?_))|refine zP ?_ ?_|refine zO ?_ (fun _=>?_)
theorem Fe.mono : ∀ a0 k,LeO (Fe.f k a0) (Fe.f (k+1) a0):=by
 intro a0 k;have ih0:=Fe.mono_l k;unfold Fe.f
 repeat' first|(with_reducible first|exact ih0 _ _ _|exact zQ _|exact zN _|refine zP ?_ ?_|refine zO ?_ (fun _=>?_))|refine zP ?_ ?_|refine zO ?_ (fun _=>?_)
set_option maxHeartbeats 8000000 in
set_option maxRecDepth 100000 in
theorem Fe.calls (k : Nat) (A0 : Option Addr) (c0 : Nat) (l0 : List (S50)) (r : List (S43)) (w : World) (hr0 : Kd.C k50 w A0 l0.length l0) (hc0 : l0.length≤c0) (h : Fe.f k l0=some r) :
  Calls Try.prog 7 #[.slice A0 l0.length c0] w fun e w' => ∃ v0_ : Value,e = .returned (v0_)∧Kd.R k43 43 w' w.heap.size (fun _=>True) v0_ r∧Below w.heap.size w w':=by
 have hu50:=Try.underlying50;have hu43:=Try.underlying43;have HR0:=zh hr0;have HC0:=zh hc0;clear hr0 hc0;have HB:=zh (Below.refl w.heap.size w);have H : (if 0≤(l0.length : Int) then (if ((l0.length : Int) : Int).toNat≤5864062014805 then (Fe.l0 k l0 (List.replicate ((l0.length : Int) : Int).toNat z43) 0) else (none)) else (none))=some r:=h;clear h
 by_cases c2 : 0≤(l0.length : Int)
 ·
  rw [if_pos c2] at H
  have c2b0:=eq_true c2;have c2b1 : decide (0≤(l0.length : Int))=true:=decide_eq_true c2;clear c2
  by_cases c3 : ((l0.length : Int) : Int).toNat≤5864062014805
  ·
   rw [if_pos c3] at H
   have c3b0:=eq_true c3;have c3b1 : decide (((l0.length : Int) : Int).toNat≤5864062014805)=true:=decide_eq_true c3;clear c3;obtain ⟨y200,hy200⟩ : ∃ y_ : List (S43),y_=(List.replicate ((l0.length : Int) : Int).toNat z43):=⟨_,rfl⟩;replace H : (Fe.l0 k l0 y200 0)=some r:=by first|(rw [hy200];with_reducible exact H)|(have H2_:=(Option.bind_some _ _).symm.trans H;rw [hy200];with_reducible exact H2_)|(have H2_:=(Option.bind_some _ _).symm.trans H;with_reducible exact H2_)|with_reducible exact H|(rw [hy200];exact H)|exact H
   have Ny200:=zh hy200;clear hy200;have H':=zh H;clear H
   go_enter Try.func7,Try.ntmps7
   go_wp2_with (first|((with_reducible refine zK (N:=7) rfl ?_);refine Kd.R_make k43 _ 43 rfl (N:=7) rfl 28 _ _ rfl (l0.length : Int) rfl rfl Try.underlying28 (.agg #[(.string ⟨#[]⟩),(.int .i64 0),(.int .i64 0),(.string ⟨#[]⟩)]) 48 info43 rfl (by decide) (by omega) z43 (ok:=fun _=>True) (okp:=fun _=>True) (k43_mkM _ _ _ z43 ) (fun _ hk=>hk) trivial (zy (by first|(with_reducible assumption)|assumption)) (Nat.le_trans (Nat.mul_le_mul_right _ (zy (by first|(with_reducible assumption)|assumption) : (l0.length : Int).toNat≤5864062014805)) (by omega)) (Below.refl _ _) (ye _) ?_;intro v201 w4 ho5 hb hg_ hnew_;clear hg_ hnew_;(first|rw [← Ny200.out] at ho5|(simp only [Int.reduceToNat] at ho5;rw [← Ny200.out] at ho5));have HO202:=zh (yy ho5 (zB (by repeat (with_reducible first|exact HB.out|apply za|apply zb|apply zc))));replace HB:=zh (zC (by repeat (with_reducible first|exact HB.out|apply za|apply zb|apply zc)) hb);clear hb ho5))
   go_loopg [4] k (fun kq v4 w' => ∃ (x3_1 : List (S43)) (x4_1 : Int),v4 = .int .i64 x4_1∧Aside0 (Fe.l0 kq l0 x3_1 x4_1=some r)∧Aside0 (kq≤k)∧Aside0 (Kd.R k43 43 w' w.heap.size (fun _=>True) v201 x3_1)∧Aside0 (Below w.heap.size w w'))
   case atStart=>exact ⟨(y200),(0),(by first|rfl|(simp;done)|(simp [*];done)),H',⟨ye _⟩,⟨by (with_reducible repeat (first|apply zm|apply zn|apply zo));exact HO202.out⟩,⟨by repeat (with_reducible first|exact HB.out|apply za|apply zb|apply zc)⟩⟩
   case round =>
    clear H'
    try clear c2 c2b0 c2b1
    try clear p2
    try clear c3 c3b0 c3b1
    obtain ⟨x3_1,x4_1,rfl,HA,HK1,HO_3,HB⟩:=hrel
    cases gk with
    | zero=>exact absurd HA.out (by simp [Fe.l0])
    | succ k1 =>
     have H:=HA.out;clear HA;simp only [Fe.l0] at H
     by_cases c6 : x4_1<(l0.length : Int)
     ·
      rw [if_pos c6] at H
      have c6b0 : decide (x4_1<(l0.length : Int))=true:=decide_eq_true c6;clear c6
      by_cases c7 : 0≤x4_1
      ·
       rw [if_pos c7] at H
       have c7b0 : decide (0≤x4_1)=true:=decide_eq_true c7;clear c7;replace H:=zT.mp H;obtain ⟨⟨t204,t205,t206,t207⟩,A80,H⟩:=H;replace H : (if x4_1<(x3_1.length : Int) then (Fe.l0 k1 l0 (x3_1.set (x4_1 : Int).toNat (⟨t204,(⟨t205,t206,t207⟩ : S25)⟩ : S43)) (wrap64 (x4_1+1))) else (none))=some r:=H;have A8:=zh A80;clear A80
       by_cases c9 : x4_1<(x3_1.length : Int)
       ·
        rw [if_pos c9] at H
        have c9b0 : decide (x4_1<(x3_1.length : Int))=true:=decide_eq_true c9;clear c9;obtain ⟨y208,hy208⟩ : ∃ y_ : List (S43),y_=(x3_1.set (x4_1 : Int).toNat (⟨t204,(⟨t205,t206,t207⟩ : S25)⟩ : S43)):=⟨_,rfl⟩;replace H : (Fe.l0 k1 l0 y208 (wrap64 (x4_1+1)))=some r:=by first|(rw [hy208];with_reducible exact H)|(have H2_:=(Option.bind_some _ _).symm.trans H;rw [hy208];with_reducible exact H2_)|(have H2_:=(Option.bind_some _ _).symm.trans H;with_reducible exact H2_)|with_reducible exact H|(rw [hy208];exact H)|exact H
        have Ny208:=zh hy208;clear hy208;have H':=zh H;clear H;have p203 : 0≤(x4_1 : Int):=zy (by first|(with_reducible assumption)|assumption);have q203 : x4_1<(l0.length : Int):=zy (by first|(with_reducible assumption)|assumption);obtain ⟨ad203,e203,hx203_0,hx203_1,hx203_2,hx203_3⟩:=at_T50 HR0.out x4_1 p203 q203
        cases e203
        replace hx203_0:=(HB.out.cell (zl w _ hx203_0)).trans hx203_0;replace hx203_1:=(HB.out.cell (zl w _ hx203_1)).trans hx203_1;replace hx203_2:=(HB.out.cell (zl w _ hx203_2)).trans hx203_2;replace hx203_3:=(HB.out.cell (zl w _ hx203_3)).trans hx203_3;replace p203:=eq_true p203;replace q203:=eq_true q203
        go_wp2_with (first|((with_reducible refine zJ (f:=23) rfl ?_);refine yj (some 20) rfl rfl Try.func23 (by kernel_rfl) rfl #[.agg #[.string ((rd_T50 l0 x4_1).f0),.int .i64 ((rd_T50 l0 x4_1).f1.f0),.int .i64 ((rd_T50 l0 x4_1).f1.f1),.string ((rd_T50 l0 x4_1).f1.f2)]] rfl (by (try simp only [zt,zu,zv]);first|done|rfl|(simp only [zw,zx];rfl)|(simp only [yr,ys,zV,zW];rfl)) ?_;(with_reducible refine (Fa.calls  ((rd_T50 l0 x4_1).f0) ((rd_T50 l0 x4_1).f1.f0) ((rd_T50 l0 x4_1).f1.f1) ((rd_T50 l0 x4_1).f1.f2) t204 t205 t206 t207 _ A8.out).mono ?_);rintro e w11 ⟨rfl,hb⟩;refine ⟨_,rfl,?_⟩;replace HO_3:=zh (yg (by (with_reducible repeat (first|apply zm|apply zn|apply zo));exact HO_3.out) hb);replace HB:=zh (zC (by repeat (with_reducible first|exact HB.out|apply za|apply zb|apply zc)) hb);(try clear hb);(try clear hb2);(try clear hk);(try clear hi);have p10 : 0≤(x4_1 : Int):=zy (by first|(with_reducible assumption)|assumption);have q10 : (x4_1 : Int)<((x3_1.length : Int) : Int):=zy (by first|(with_reducible assumption)|assumption);obtain ⟨go10,co10,eo10,gb10,gl10,cl10,HG10⟩:=Kd.R_form HO_3.out (by omega);(first|cases eo10|(injection eo10 with ea_ en_ ec_;(first|subst ea_|(injection ea_ with ea_;subst ea_));subst ec_;clear en_));have GB10:=zh gb10;have GG10:=zh HG10;clear gb10 gl10 HG10;obtain ⟨ce10,hcl10,hM10,hcc10,hfr10⟩:=Kd.R_elem HO_3.out z43 (x4_1 : Int) p10 q10;obtain rfl:=k43_openM hM10;have hx10_0 : w11.cell? ⟨go10,(x4_1 : Int).toNat*4,none⟩=some (.string ((rd_T43 x3_1 x4_1).f0)):=hcc10 0 _ rfl;have hx10_1 : w11.cell? ⟨go10,(x4_1 : Int).toNat*4+1,none⟩=some (.int .i64 ((rd_T43 x3_1 x4_1).f1.f0)):=hcc10 1 _ rfl;have hx10_2 : w11.cell? ⟨go10,(x4_1 : Int).toNat*4+2,none⟩=some (.int .i64 ((rd_T43 x3_1 x4_1).f1.f1)):=hcc10 2 _ rfl;have hx10_3 : w11.cell? ⟨go10,(x4_1 : Int).toNat*4+3,none⟩=some (.string ((rd_T43 x3_1 x4_1).f1.f2)):=hcc10 3 _ rfl;have hf10_0 : w11.frozen? ⟨go10,(x4_1 : Int).toNat*4,none⟩=false:=hfr10 0;have hf10_1 : w11.frozen? ⟨go10,(x4_1 : Int).toNat*4+1,none⟩=false:=hfr10 1;have hf10_2 : w11.frozen? ⟨go10,(x4_1 : Int).toNat*4+2,none⟩=false:=hfr10 2;have hf10_3 : w11.frozen? ⟨go10,(x4_1 : Int).toNat*4+3,none⟩=false:=hfr10 3;clear hcl10 hcc10 hfr10 hM10;replace p10:=eq_true p10;replace q10:=eq_true q10;have HX12:=zh (show Kd.R k43 43 w11 w.heap.size (fun _=>True) (.slice (some ⟨go10,0,none⟩) x3_1.length co10) x3_1 from (by (with_reducible repeat (first|apply zm|apply zn|apply zo));exact HO_3.out));obtain ⟨ce12,hcl12,hM12,hcc12,hfr12⟩:=Kd.R_elem HX12.out z43 (x4_1 : Int) (zy (by first|(with_reducible assumption)|assumption)) (by have h_ : (x4_1 : Int)<((x3_1.length : Int) : Int):=zy (by first|(with_reducible assumption)|assumption);first|exact h_|(have e_:=(yh HO_3.out).1;omega)|simpa using h_);obtain rfl:=k43_openM hM12;have HP12:=Kd.R_seg HX12.out (x4_1 : Int) (zy (by first|(with_reducible assumption)|assumption)) (by have h_ : (x4_1 : Int)<((x3_1.length : Int) : Int):=zy (by first|(with_reducible assumption)|assumption);first|exact h_|(have e_:=(yh HO_3.out).1;omega)|simpa using h_) (seg:=[.string t204,.int .i64 t205,.int .i64 t206,.string t207]) (j:=0) hcl12 hcc12 (show 4≤4 from by decide) (x':=(⟨t204,(⟨t205,t206,t207⟩ : S25)⟩ : S43)) (k43_mkM _ _ _ (⟨t204,(⟨t205,t206,t207⟩ : S25)⟩ : S43) ) (fun _ hk=>hk);have hx12_0:=hcc12 0 _ rfl;(try simp only [show (k43).sz=4 from rfl,Nat.mul_one,Nat.add_zero] at hx12_0);have hf12_0:=hfr12 0;(try simp only [show (k43).sz=4 from rfl,Nat.mul_one,Nat.add_zero] at hf12_0);have hx12_1:=hcc12 1 _ rfl;(try simp only [show (k43).sz=4 from rfl,Nat.mul_one,Nat.add_zero] at hx12_1);have hf12_1:=hfr12 1;(try simp only [show (k43).sz=4 from rfl,Nat.mul_one,Nat.add_zero] at hf12_1);have hx12_2:=hcc12 2 _ rfl;(try simp only [show (k43).sz=4 from rfl,Nat.mul_one,Nat.add_zero] at hx12_2);have hf12_2:=hfr12 2;(try simp only [show (k43).sz=4 from rfl,Nat.mul_one,Nat.add_zero] at hf12_2);have hx12_3:=hcc12 3 _ rfl;(try simp only [show (k43).sz=4 from rfl,Nat.mul_one,Nat.add_zero] at hx12_3);have hf12_3:=hfr12 3;(try simp only [show (k43).sz=4 from rfl,Nat.mul_one,Nat.add_zero] at hf12_3);clear hcl12 hcc12 hfr12 hM12)|((with_reducible refine gate_store (t:=43) (p:=21) rfl ?_);refine store_event (t:=43) (p:=21) (v:=?vo_w13) (w1:=((((w11.setCell ⟨go10,(x4_1 : Int).toNat*4,none⟩ (.string t204)).setCell ⟨go10,(x4_1 : Int).toNat*4+1,none⟩ (.int .i64 t205)).setCell ⟨go10,(x4_1 : Int).toNat*4+2,none⟩ (.int .i64 t206)).setCell ⟨go10,(x4_1 : Int).toNat*4+3,none⟩ (.string t207))) ?hg ?ho ?hn ?hr ?_;(case ho=>rfl);(case hg=>rfl);(case hn=>rfl);(case hr=>go_simp <;> rfl);intro w13 hw;have hg : w11.grownBy w13 (some go10):=(by rw [hw];exact HP12.2);have hp_ : Kd.R k43 43 w13 w.heap.size (fun _=>True) (.slice (some ⟨go10,0,none⟩) x3_1.length co10) y208:=(by rw [hw,Ny208.out];exact HP12.1);clear HP12;replace HO_3:=zh (hp_);replace HB:=zh ((by rw [hw];exact zd (zd (zd (zd (HB.out) GB10.out) GB10.out) GB10.out) GB10.out : Below w.heap.size w w13));clear hg hw hp_))
        go_roundg k1
        case measure=>have:=HK1.out;omega
        case rel=>exact ⟨(y208),(wrap64 (x4_1+1)),(by first|rfl|(simp;done)|(simp [*];done)),H',⟨by have:=HK1.out;omega⟩,⟨by (with_reducible repeat (first|apply zm|apply zn|apply zo));exact HO_3.out⟩,⟨by repeat (with_reducible first|exact HB.out|apply za|apply zb|apply zc)⟩⟩
       rw [if_neg c9] at H;exact absurd H (by simp)
      rw [if_neg c7] at H;exact absurd H (by simp)
     rw [if_neg c6] at H;have c6b0 : decide (x4_1<(l0.length : Int))=false:=decide_eq_false c6;clear c6;obtain rfl:=zU H
     go_wp2
     go_ret
     exact ⟨_,by first|rfl|(simp [yt,yu] <;> rfl)|(simp [*,yt,yu] <;> rfl),by (with_reducible repeat (first|apply zm|apply zn|apply zo));exact HO_3.out,by repeat (with_reducible first|exact HB.out|apply za|apply zb|apply zc)⟩
  rw [if_neg c3] at H;exact absurd H (by simp)
 rw [if_neg c2] at H;exact absurd H (by simp)


def strings_Compare.f (a0 : ByteArray) (a1 : ByteArray) : Option (Int):=some (Lib.compareBytes a0.data.toList a1.data.toList)
set_option maxHeartbeats 1000000 in
set_option maxRecDepth 100000 in
theorem strings_Compare.inner (a b : ByteArray) (w : World) :
  Calls Try.prog 66 #[.string a,.string b] w fun e w' => e = .returned (.int .i64 (Lib.compareBytes a.data.toList b.data.toList))∧w' = w:=by
 go_enter Try.func66,Try.ntmps66
 go_wp2
 rw [run_callFunc_extern Try.func84 (by kernel_rfl) (by kernel_rfl) (by kernel_rfl) (e:=Extern.BytealgCompare.compare) (by kernel_rfl),Lib.run_compareString];simp only [Result.andThen];rw [Oper.upon_value]
 go_wp2
 go_ret
 exact ⟨rfl,rfl⟩
set_option maxHeartbeats 1000000 in
theorem strings_Compare.calls (a0 : ByteArray) (a1 : ByteArray) (r : Int) (w : World) (h : strings_Compare.f a0 a1=some r) :
  Calls Try.prog 46 #[.string a0,.string a1] w fun e w' => e = .returned (.int .i64 r)∧Drawn0 w w':=by
 have h' : (some (Lib.compareBytes a0.data.toList a1.data.toList))=some r:=h;obtain rfl:=zU h';clear h h'
 go_enter Try.func46,Try.ntmps46
 go_wp2_with (go_at_call 66;refine (strings_Compare.inner _ _ _).mono ?_;rintro e w' ⟨rfl,rfl⟩)
 go_ret
 exact ⟨rfl,yp _⟩


def F0a.f (a0_0 : ByteArray) (a0_1 : Int) (a0_2 : Int) (a0_3 : ByteArray) (a1 : ByteArray) : Option (Int):=(strings_Compare.f a0_0 a1).bind fun t210=>(some t210)
set_option maxHeartbeats 8000000 in
set_option maxRecDepth 100000 in
theorem F0a.calls (a0_0 : ByteArray) (a0_1 : Int) (a0_2 : Int) (a0_3 : ByteArray) (a1 : ByteArray) (r : Int) (w : World) (h : F0a.f a0_0 a0_1 a0_2 a0_3 a1=some r) :
  Calls Try.prog 45 #[.agg #[.string a0_0,.int .i64 a0_1,.int .i64 a0_2,.string a0_3],.string a1] w fun e w' => e = .returned (.int .i64 r)∧Below w.heap.size w w':=by
 have hu43:=Try.underlying43;have HB:=zh (Below.refl w.heap.size w);have H : ((strings_Compare.f a0_0 a1).bind fun t210=>(some t210))=some r:=h;clear h;replace H:=zT.mp H;obtain ⟨t210,A30,H⟩:=H;replace H : (some t210)=some r:=H;have A3:=zh A30;clear A30;obtain rfl:=zU H
 go_enter Try.func45,Try.ntmps45
 go_wp2_with (first|((with_reducible refine zK (N:=2) rfl ?_);refine zI ?hg (N:=2) ?hd (cs:=#[.string a0_0,.int .i64 a0_1,.int .i64 a0_2,.string a0_3]) (t:=43) ?hr ?_;(case hd=>rfl);(case hg=>rfl);(case hr=>go_simp <;> rfl);intro gb209 hg w4 hbox hb;have BK209:=zh (hbox);have hH_:=cH (by repeat (with_reducible first|exact HB.out|apply za|apply zb|apply zc)) hb hg;have GW209:=zh hH_.1;have GE209:=GW209;replace HB:=zh hH_.2;clear hb hbox hg hH_;obtain ⟨hcz5_0,hcz5_1,hcz5_2,hcz5_3,hfz5_0,hfz5_1,hfz5_2,hfz5_3⟩:=cB4 BK209.out)|((with_reducible refine zJ (f:=46) rfl ?_);refine yj (some 8) rfl rfl Try.func46 (by kernel_rfl) rfl #[.string a0_0,.string a1] rfl (by (try simp only [zt,zu,zv]);first|done|rfl|(simp only [zw,zx];rfl)|(simp only [yr,ys,zV,zW];rfl)) ?_;(with_reducible refine (strings_Compare.calls  a0_0 a1 t210 _ A3.out).mono ?_);rintro e w' ⟨rfl,⟨nd,rfl⟩⟩;refine ⟨_,rfl,?_⟩))
 go_ret
 exact ⟨by first|rfl|(simp [yt,yu] <;> rfl)|(simp [*,yt,yu] <;> rfl),by repeat (with_reducible first|exact HB.out|apply za|apply zb|apply zc|refine zd ?_ GE209.out)⟩


def Fo.l0 : Nat→List (S43)→ByteArray→Int→Int→Int→Option (Int×Bool)
 | 0,_,_,_,_,_=>none
 | k+1,x0,x1,x8,x9,x10=>if x9<x10 then (if 0≤(wrap64 ((IntKind.u64.wrap (wrap64 (x9+x10))) / 2)) then (if (wrap64 ((IntKind.u64.wrap (wrap64 (x9+x10))) / 2))<(x0.length : Int) then ((F0a.f ((rd_T43 x0 (wrap64 ((IntKind.u64.wrap (wrap64 (x9+x10))) / 2))).f0) ((rd_T43 x0 (wrap64 ((IntKind.u64.wrap (wrap64 (x9+x10))) / 2))).f1.f0) ((rd_T43 x0 (wrap64 ((IntKind.u64.wrap (wrap64 (x9+x10))) / 2))).f1.f1) ((rd_T43 x0 (wrap64 ((IntKind.u64.wrap (wrap64 (x9+x10))) / 2))).f1.f2) x1).bind fun t212=>(if t212<0 then (Fo.l0 k x0 x1 x8 (wrap64 ((wrap64 ((IntKind.u64.wrap (wrap64 (x9+x10))) / 2))+1)) x10) else (Fo.l0 k x0 x1 x8 x9 (wrap64 ((IntKind.u64.wrap (wrap64 (x9+x10))) / 2))))) else (none)) else (none)) else (if x9<x8 then (if 0≤x9 then (if x9<(x0.length : Int) then ((F0a.f ((rd_T43 x0 x9).f0) ((rd_T43 x0 x9).f1.f0) ((rd_T43 x0 x9).f1.f1) ((rd_T43 x0 x9).f1.f2) x1).bind fun t214=>(some (x9,(t214 == 0)))) else (none)) else (none)) else (some (x9,false)))
def Fo.f (k : Nat) (l0 : List (S43)) (a1 : ByteArray)  : Option (Int×Bool):=Fo.l0 k l0 a1 (l0.length : Int) 0 (l0.length : Int)
theorem Fo.mono_l : ∀ k,(∀ y0 y1 y2 y3 y4,LeO (Fo.l0 k y0 y1 y2 y3 y4) (Fo.l0 (k+1) y0 y1 y2 y3 y4))
 | 0=>fun _ _ _ _ _ r h=>by simp [Fo.l0] at h
 | k+1=>by
  have ih0:=Fo.mono_l k;intro y0 y1 y2 y3 y4;unfold Fo.l0
  repeat' first|(with_reducible first|exact ih0 _ _ _ _ _|exact zQ _|exact zN _|refine zP ?_ ?_|refine zO ?_ (fun _=>?_))|refine zP ?_ ?_|refine zO ?_ (fun _=>?_)
theorem Fo.mono : ∀ a0 a1 k,LeO (Fo.f k a0 a1) (Fo.f (k+1) a0 a1):=by
 intro a0 a1 k;have ih0:=Fo.mono_l k;unfold Fo.f
 repeat' first|(with_reducible first|exact ih0 _ _ _ _ _|exact zQ _|exact zN _|refine zP ?_ ?_|refine zO ?_ (fun _=>?_))|refine zP ?_ ?_|refine zO ?_ (fun _=>?_)
set_option maxHeartbeats 8000000 in
set_option maxRecDepth 100000 in
theorem Fo.calls (k : Nat) (A0 : Option Addr) (c0 : Nat) (l0 : List (S43)) (a1 : ByteArray)  (r1 : Int) (r2 : Bool) (w : World) (hr0 : Kd.C k43 w A0 l0.length l0) (hc0 : l0.length≤c0) (h : Fo.f k l0 a1=some (r1,r2)) :
  Calls Try.prog 44 #[.slice A0 l0.length c0,.string a1,.func (.func 45) #[] #[]] w fun e w' => e = .returned (.tuple #[.int .i64 r1,.bool r2])∧Below w.heap.size w w':=by
 have hu43:=Try.underlying43;have HR0:=zh hr0;have HC0:=zh hc0;clear hr0 hc0;have HB:=zh (Below.refl w.heap.size w);have H : (Fo.l0 k l0 a1 (l0.length : Int) 0 (l0.length : Int))=some (r1,r2):=h;clear h;have H':=zh H;clear H
 go_enter Try.func44,Try.ntmps44
 go_wp2
 go_loopg [9,10] k (fun kq v9 v10 w' => ∃ (x9_1 : Int) (x10_1 : Int),v9 = .int .i64 x9_1∧v10 = .int .i64 x10_1∧Aside0 (Fo.l0 kq l0 a1 (l0.length : Int) x9_1 x10_1=some (r1,r2))∧Aside0 (kq≤k)∧Aside0 (Below w.heap.size w w'))
 case atStart=>exact ⟨(0),((l0.length : Int)),(by first|rfl|(simp;done)|(simp [*];done)),(by first|rfl|(simp;done)|(simp [*];done)),H',⟨ye _⟩,⟨by repeat (with_reducible first|exact HB.out|apply za|apply zb|apply zc)⟩⟩
 case round =>
  clear H'
  try clear p2
  obtain ⟨x9_1,x10_1,rfl,rfl,HA,HK1,HB⟩:=hrel
  cases gk with
  | zero=>exact absurd HA.out (by simp [Fo.l0])
  | succ k1 =>
   have H:=HA.out;clear HA;simp only [Fo.l0] at H
   by_cases c4 : x9_1<x10_1
   ·
    rw [if_pos c4] at H
    have c4b0 : decide (x9_1<x10_1)=true:=decide_eq_true c4;clear c4;obtain ⟨ji5,hji5⟩ : ∃ j_ : Int,(wrap64 ((IntKind.u64.wrap (wrap64 (x9_1+x10_1))) / 2))=j_:=⟨_,rfl⟩;replace H : (if 0≤(ji5) then (if (ji5)<(l0.length : Int) then ((F0a.f ((rd_T43 l0 (ji5)).f0) ((rd_T43 l0 (ji5)).f1.f0) ((rd_T43 l0 (ji5)).f1.f1) ((rd_T43 l0 (ji5)).f1.f2) a1).bind fun t212=>(if t212<0 then (Fo.l0 k1 l0 a1 (l0.length : Int) (wrap64 ((ji5)+1)) x10_1) else (Fo.l0 k1 l0 a1 (l0.length : Int) x9_1 ji5))) else (none)) else (none))=some (r1,r2):=by first|(rw [hji5] at H;exact H)|(simp only [hji5] at H ⊢;exact H)
    have hji5w : (IntKind.i64.wrap ((IntKind.u64.wrap (wrap64 (x9_1+x10_1))) / 2))=ji5:=(zG _).trans hji5
    by_cases c6 : 0≤(ji5)
    ·
     rw [if_pos c6] at H
     have c6b0 : decide (0≤(ji5))=true:=decide_eq_true c6;clear c6
     by_cases c7 : (ji5)<(l0.length : Int)
     ·
      rw [if_pos c7] at H
      have c7b0 : decide ((ji5)<(l0.length : Int))=true:=decide_eq_true c7;clear c7;replace H:=zT.mp H;obtain ⟨t212,A80,H⟩:=H;replace H : (if t212<0 then (Fo.l0 k1 l0 a1 (l0.length : Int) (wrap64 ((ji5)+1)) x10_1) else (Fo.l0 k1 l0 a1 (l0.length : Int) x9_1 ji5))=some (r1,r2):=H;have A8:=zh A80;clear A80
      by_cases c9 : t212<0
      ·
       rw [if_pos c9] at H
       have c9b0 : decide (t212<0)=true:=decide_eq_true c9;clear c9;have H':=zh H;clear H;have p211 : 0≤((ji5) : Int):=zy (by first|(with_reducible assumption)|assumption);have q211 : (ji5)<(l0.length : Int):=zy (by first|(with_reducible assumption)|assumption);obtain ⟨ad211,e211,hx211_0,hx211_1,hx211_2,hx211_3⟩:=at_T43 HR0.out (ji5) p211 q211
       cases e211
       replace hx211_0:=(HB.out.cell (zl w _ hx211_0)).trans hx211_0;replace hx211_1:=(HB.out.cell (zl w _ hx211_1)).trans hx211_1;replace hx211_2:=(HB.out.cell (zl w _ hx211_2)).trans hx211_2;replace hx211_3:=(HB.out.cell (zl w _ hx211_3)).trans hx211_3;replace p211:=eq_true p211;replace q211:=eq_true q211
       go_wp2_with (first|(go_at_call 45;(with_reducible refine (F0a.calls  ((rd_T43 l0 (ji5)).f0) ((rd_T43 l0 (ji5)).f1.f0) ((rd_T43 l0 (ji5)).f1.f1) ((rd_T43 l0 (ji5)).f1.f2) a1 t212 _ A8.out).mono ?_);rintro e w10 ⟨rfl,hb⟩;replace HB:=zh (zC (by repeat (with_reducible first|exact HB.out|apply za|apply zb|apply zc)) hb);(try clear hb);(try clear hb2);(try clear hk);(try clear hi)))
       go_roundg k1
       case measure=>have:=HK1.out;omega
       case rel=>exact ⟨(wrap64 ((ji5)+1)),(x10_1),(by first|rfl|(simp;done)|(simp only [← hji5] <;> (first|rfl|simp))|(simp [*];done)),(by first|rfl|(simp;done)|(simp [*];done)),H',⟨by have:=HK1.out;omega⟩,⟨by repeat (with_reducible first|exact HB.out|apply za|apply zb|apply zc)⟩⟩
      rw [if_neg c9] at H;have c9b0 : decide (t212<0)=false:=decide_eq_false c9;clear c9;have H':=zh H;clear H;have p211 : 0≤((ji5) : Int):=zy (by first|(with_reducible assumption)|assumption);have q211 : (ji5)<(l0.length : Int):=zy (by first|(with_reducible assumption)|assumption);obtain ⟨ad211,e211,hx211_0,hx211_1,hx211_2,hx211_3⟩:=at_T43 HR0.out (ji5) p211 q211
      cases e211
      replace hx211_0:=(HB.out.cell (zl w _ hx211_0)).trans hx211_0;replace hx211_1:=(HB.out.cell (zl w _ hx211_1)).trans hx211_1;replace hx211_2:=(HB.out.cell (zl w _ hx211_2)).trans hx211_2;replace hx211_3:=(HB.out.cell (zl w _ hx211_3)).trans hx211_3;replace p211:=eq_true p211;replace q211:=eq_true q211
      go_wp2_with (first|(go_at_call 45;(with_reducible refine (F0a.calls  ((rd_T43 l0 (ji5)).f0) ((rd_T43 l0 (ji5)).f1.f0) ((rd_T43 l0 (ji5)).f1.f1) ((rd_T43 l0 (ji5)).f1.f2) a1 t212 _ A8.out).mono ?_);rintro e w11 ⟨rfl,hb⟩;replace HB:=zh (zC (by repeat (with_reducible first|exact HB.out|apply za|apply zb|apply zc)) hb);(try clear hb);(try clear hb2);(try clear hk);(try clear hi)))
      go_roundg k1
      case measure=>have:=HK1.out;omega
      case rel=>exact ⟨(x9_1),(ji5),(by first|rfl|(simp;done)|(simp [*];done)),(by first|rfl|(simp;done)|(simp only [← hji5] <;> (first|rfl|simp))|(simp [*];done)),H',⟨by have:=HK1.out;omega⟩,⟨by repeat (with_reducible first|exact HB.out|apply za|apply zb|apply zc)⟩⟩
     rw [if_neg c7] at H;exact absurd H (by simp)
    rw [if_neg c6] at H;exact absurd H (by simp)
   rw [if_neg c4] at H;have c4b0 : decide (x9_1<x10_1)=false:=decide_eq_false c4;clear c4
   by_cases c12 : x9_1<(l0.length : Int)
   ·
    rw [if_pos c12] at H
    have c12b0 : decide (x9_1<(l0.length : Int))=true:=decide_eq_true c12;clear c12
    by_cases c13 : 0≤x9_1
    ·
     rw [if_pos c13] at H
     have c13b0 : decide (0≤x9_1)=true:=decide_eq_true c13;clear c13
     by_cases c14 : x9_1<(l0.length : Int)
     ·
      rw [if_pos c14] at H
      have c14b0 : decide (x9_1<(l0.length : Int))=true:=decide_eq_true c14;clear c14;replace H:=zT.mp H;obtain ⟨t214,A150,H⟩:=H;replace H : (some (x9_1,(t214 == 0)))=some (r1,r2):=H;have A15:=zh A150;clear A150;simp only [Option.some.injEq,Prod.mk.injEq] at H;obtain ⟨rfl,rfl⟩:=H;have p213 : 0≤(x9_1 : Int):=zy (by first|(with_reducible assumption)|assumption);have q213 : x9_1<(l0.length : Int):=zy (by first|(with_reducible assumption)|assumption);obtain ⟨ad213,e213,hx213_0,hx213_1,hx213_2,hx213_3⟩:=at_T43 HR0.out x9_1 p213 q213
      cases e213
      replace hx213_0:=(HB.out.cell (zl w _ hx213_0)).trans hx213_0;replace hx213_1:=(HB.out.cell (zl w _ hx213_1)).trans hx213_1;replace hx213_2:=(HB.out.cell (zl w _ hx213_2)).trans hx213_2;replace hx213_3:=(HB.out.cell (zl w _ hx213_3)).trans hx213_3;replace p213:=eq_true p213;replace q213:=eq_true q213
      go_wp2_with (first|(go_at_call 45;(with_reducible refine (F0a.calls  ((rd_T43 l0 x9_1).f0) ((rd_T43 l0 x9_1).f1.f0) ((rd_T43 l0 x9_1).f1.f1) ((rd_T43 l0 x9_1).f1.f2) a1 t214 _ A15.out).mono ?_);rintro e w16 ⟨rfl,hb⟩;replace HB:=zh (zC (by repeat (with_reducible first|exact HB.out|apply za|apply zb|apply zc)) hb);(try clear hb);(try clear hb2);(try clear hk);(try clear hi)))
      go_ret2
      exact ⟨by first|rfl|(simp [yt,yu] <;> rfl)|(simp [*,yt,yu] <;> rfl),by repeat (with_reducible first|exact HB.out|apply za|apply zb|apply zc)⟩
     rw [if_neg c14] at H;exact absurd H (by simp)
    rw [if_neg c13] at H;exact absurd H (by simp)
   rw [if_neg c12] at H;have c12b0 : decide (x9_1<(l0.length : Int))=false:=decide_eq_false c12;clear c12;simp only [Option.some.injEq,Prod.mk.injEq] at H;obtain ⟨rfl,rfl⟩:=H
   go_wp2
   go_ret2
   exact ⟨by first|rfl|(simp [yt,yu] <;> rfl)|(simp [*,yt,yu] <;> rfl),by repeat (with_reducible first|exact HB.out|apply za|apply zb|apply zc)⟩


def Fu.f (k : Nat) (l0 : List (S43)) (a1 : ByteArray) : Option (Int×Bool):=(Fo.f k l0 a1).bind fun bt215=>(some (bt215.1,bt215.2))
theorem Fu.mono : ∀ a0 a1 k,LeO (Fu.f k a0 a1) (Fu.f (k+1) a0 a1):=by
 intro a0 a1 k;unfold Fu.f
 repeat' first|(with_reducible first|exact Fo.mono _ _ _|exact zQ _|exact zN _|refine zP ?_ ?_|refine zO ?_ (fun _=>?_))|refine zP ?_ ?_|refine zO ?_ (fun _=>?_)
set_option maxHeartbeats 8000000 in
set_option maxRecDepth 100000 in
theorem Fu.calls (k : Nat) (A0 : Option Addr) (c0 : Nat) (l0 : List (S43)) (a1 : ByteArray) (r1 : Int) (r2 : Bool) (w : World) (hr0 : Kd.C k43 w A0 l0.length l0) (hc0 : l0.length≤c0) (h : Fu.f k l0 a1=some (r1,r2)) :
  Calls Try.prog 24 #[.slice A0 l0.length c0,.string a1] w fun e w' => e = .returned (.tuple #[.int .i64 r1,.bool r2])∧Below w.heap.size w w':=by
 have HR0:=zh hr0;have HC0:=zh hc0;clear hr0 hc0;have HB:=zh (Below.refl w.heap.size w);have H : ((Fo.f k l0 a1).bind fun bt215=>(some (bt215.1,bt215.2)))=some (r1,r2):=h;clear h;replace H:=zT.mp H;obtain ⟨⟨t215,t216⟩,A30,H⟩:=H;replace H : (some (t215,t216))=some (r1,r2):=H;have A3:=zh A30;clear A30;simp only [Option.some.injEq,Prod.mk.injEq] at H;obtain ⟨rfl,rfl⟩:=H
 go_enter Try.func24,Try.ntmps24
 go_wp2_with (first|((with_reducible refine zJ (f:=44) rfl ?_);refine yj (some 8) rfl rfl Try.func44 (by kernel_rfl) rfl #[.slice A0 l0.length c0,.string a1,.func (.func 45) #[] #[]] rfl (by (try simp only [zt,zu,zv]);first|done|rfl|(simp only [zw,zx];rfl)|(simp only [yr,ys,zV,zW];rfl)) ?_;(with_reducible refine (Fo.calls k  _ _ l0 a1  t215 t216 _ ?side1 ?side2 A3.out).mono ?_);(case side1=>repeat (first|exact HR0.out|(with_reducible refine Kd.C_alloc ?_ _)|(with_reducible refine Kd.C_drewN ?_ _)|(with_reducible refine Kd.C_drew ?_)));(case side2=>exact HC0.out);rintro e w4 ⟨rfl,hb⟩;refine ⟨_,rfl,?_⟩;replace HB:=zh (zC (by repeat (with_reducible first|exact HB.out|apply za|apply zb|apply zc)) hb);(try clear hb);(try clear hb2);(try clear hk);(try clear hi)))
 go_ret2
 exact ⟨by first|rfl|(simp [yt,yu] <;> rfl)|(simp [*,yt,yu] <;> rfl),by repeat (with_reducible first|exact HB.out|apply za|apply zb|apply zc)⟩


def F0e.f (a0 : Int) : Option (Bool):=if a0 ≥ 97 then (if a0≤122 then (some true) else (if a0 ≥ 65 then (if a0≤90 then (some true) else (some (a0 == 95))) else (some (a0 == 95)))) else (if a0 ≥ 65 then (if a0≤90 then (some true) else (some (a0 == 95))) else (some (a0 == 95)))
set_option maxHeartbeats 8000000 in
set_option maxRecDepth 100000 in
theorem F0e.calls (a0 : Int) (r : Bool) (w : World) (h : F0e.f a0=some r) :
  Calls Try.prog 67 #[.int .u8 a0] w fun e w' => e = .returned (.bool r)∧Drawn0 w w':=by
 have H : (if a0 ≥ 97 then (if a0≤122 then (some true) else (if a0 ≥ 65 then (if a0≤90 then (some true) else (some (a0 == 95))) else (some (a0 == 95)))) else (if a0 ≥ 65 then (if a0≤90 then (some true) else (some (a0 == 95))) else (some (a0 == 95))))=some r:=h;clear h
 by_cases c2 : a0 ≥ 97
 ·
  rw [if_pos c2] at H
  have c2b0 : decide (97≤a0)=true:=decide_eq_true c2;clear c2
  by_cases c3 : a0≤122
  ·
   rw [if_pos c3] at H
   have c3b0 : decide (a0≤122)=true:=decide_eq_true c3;clear c3;obtain rfl:=zU H
   go_enter Try.func67,Try.ntmps67
   go_wp2
   go_ret
   exact ⟨by first|rfl|(simp;done)|(simp [*];done),by repeat (first|exact yp _|apply yq)⟩
  rw [if_neg c3] at H;have c3b0 : decide (a0≤122)=false:=decide_eq_false c3;clear c3
  by_cases c4 : a0 ≥ 65
  ·
   rw [if_pos c4] at H
   have c4b0 : decide (65≤a0)=true:=decide_eq_true c4;clear c4
   by_cases c5 : a0≤90
   ·
    rw [if_pos c5] at H
    have c5b0 : decide (a0≤90)=true:=decide_eq_true c5;clear c5;obtain rfl:=zU H
    go_enter Try.func67,Try.ntmps67
    go_wp2
    go_ret
    exact ⟨by first|rfl|(simp;done)|(simp [*];done),by repeat (first|exact yp _|apply yq)⟩
   rw [if_neg c5] at H;have c5b0 : decide (a0≤90)=false:=decide_eq_false c5;clear c5;obtain rfl:=zU H
   go_enter Try.func67,Try.ntmps67
   go_wp2
   go_ret
   exact ⟨by first|rfl|(simp;done)|(simp [*];done),by repeat (first|exact yp _|apply yq)⟩
  rw [if_neg c4] at H;have c4b0 : decide (65≤a0)=false:=decide_eq_false c4;clear c4;obtain rfl:=zU H
  go_enter Try.func67,Try.ntmps67
  go_wp2
  go_ret
  exact ⟨by first|rfl|(simp;done)|(simp [*];done),by repeat (first|exact yp _|apply yq)⟩
 rw [if_neg c2] at H;have c2b0 : decide (97≤a0)=false:=decide_eq_false c2;clear c2
 by_cases c6 : a0 ≥ 65
 ·
  rw [if_pos c6] at H
  have c6b0 : decide (65≤a0)=true:=decide_eq_true c6;clear c6
  by_cases c7 : a0≤90
  ·
   rw [if_pos c7] at H
   have c7b0 : decide (a0≤90)=true:=decide_eq_true c7;clear c7;obtain rfl:=zU H
   go_enter Try.func67,Try.ntmps67
   go_wp2
   go_ret
   exact ⟨by first|rfl|(simp;done)|(simp [*];done),by repeat (first|exact yp _|apply yq)⟩
  rw [if_neg c7] at H;have c7b0 : decide (a0≤90)=false:=decide_eq_false c7;clear c7;obtain rfl:=zU H
  go_enter Try.func67,Try.ntmps67
  go_wp2
  go_ret
  exact ⟨by first|rfl|(simp;done)|(simp [*];done),by repeat (first|exact yp _|apply yq)⟩
 rw [if_neg c6] at H;have c6b0 : decide (65≤a0)=false:=decide_eq_false c6;clear c6;obtain rfl:=zU H
 go_enter Try.func67,Try.ntmps67
 go_wp2
 go_ret
 exact ⟨by first|rfl|(simp;done)|(simp [*];done),by repeat (first|exact yp _|apply yq)⟩


def F0c.f (a0 : Int) : Option (Bool):=if a0 ≥ 48 then (some (decide (a0≤57))) else (some false)
set_option maxHeartbeats 8000000 in
set_option maxRecDepth 100000 in
theorem F0c.calls (a0 : Int) (r : Bool) (w : World) (h : F0c.f a0=some r) :
  Calls Try.prog 68 #[.int .u8 a0] w fun e w' => e = .returned (.bool r)∧Drawn0 w w':=by
 have H : (if a0 ≥ 48 then (some (decide (a0≤57))) else (some false))=some r:=h;clear h
 by_cases c2 : a0 ≥ 48
 ·
  rw [if_pos c2] at H
  have c2b0 : decide (48≤a0)=true:=decide_eq_true c2;clear c2;obtain rfl:=zU H
  go_enter Try.func68,Try.ntmps68
  go_wp2
  go_ret
  exact ⟨by first|rfl|(simp;done)|(simp [*];done),by repeat (first|exact yp _|apply yq)⟩
 rw [if_neg c2] at H;have c2b0 : decide (48≤a0)=false:=decide_eq_false c2;clear c2;obtain rfl:=zU H
 go_enter Try.func68,Try.ntmps68
 go_wp2
 go_ret
 exact ⟨by first|rfl|(simp;done)|(simp [*];done),by repeat (first|exact yp _|apply yq)⟩


def F06.f (a0 : Int) (a1 : Int) (a2 : Int) : Option (Bool):=if a1≤a0 then (some (decide (a0≤a2))) else (some false)
set_option maxHeartbeats 8000000 in
set_option maxRecDepth 100000 in
theorem F06.calls (a0 : Int) (a1 : Int) (a2 : Int) (r : Bool) (w : World) (h : F06.f a0 a1 a2=some r) :
  Calls Try.prog 69 #[.int .i64 a0,.int .i64 a1,.int .i64 a2] w fun e w' => e = .returned (.bool r)∧Drawn0 w w':=by
 have H : (if a1≤a0 then (some (decide (a0≤a2))) else (some false))=some r:=h;clear h
 by_cases c4 : a1≤a0
 ·
  rw [if_pos c4] at H
  have c4b0 : decide (a1≤a0)=true:=decide_eq_true c4;clear c4;obtain rfl:=zU H
  go_enter Try.func69,Try.ntmps69
  go_wp2
  go_ret
  exact ⟨by first|rfl|(simp;done)|(simp [*];done),by repeat (first|exact yp _|apply yq)⟩
 rw [if_neg c4] at H;have c4b0 : decide (a1≤a0)=false:=decide_eq_false c4;clear c4;obtain rfl:=zU H
 go_enter Try.func69,Try.ntmps69
 go_wp2
 go_ret
 exact ⟨by first|rfl|(simp;done)|(simp [*];done),by repeat (first|exact yp _|apply yq)⟩


def Fn.l0 : Nat→ByteArray→Int→Int→Option (Bool)
 | 0,_,_,_=>none
 | k+1,x0,x5,x6=>if x6<x5 then (if 0≤x6 then (if x6<(x0.size : Int) then ((F0e.f (bt x0 x6)).bind fun t218=>(if t218=true then (Fn.l0 k x0 x5 (wrap64 (x6+1))) else ((F0c.f (bt x0 x6)).bind fun t219=>(if t219=true then (if x6=0 then (some false) else (Fn.l0 k x0 x5 (wrap64 (x6+1)))) else (some false))))) else (none)) else (none)) else ((F06.f (x0.size : Int) 1 40).bind fun t217=>(some t217))
def Fn.f (k : Nat) (a0 : ByteArray) : Option (Bool):=Fn.l0 k a0 (a0.size : Int) 0
theorem Fn.mono_l : ∀ k,(∀ y0 y1 y2,LeO (Fn.l0 k y0 y1 y2) (Fn.l0 (k+1) y0 y1 y2))
 | 0=>fun _ _ _ r h=>by simp [Fn.l0] at h
 | k+1=>by
  have ih0:=Fn.mono_l k;intro y0 y1 y2;unfold Fn.l0
  repeat' first|(with_reducible first|exact ih0 _ _ _|exact zQ _|exact zN _|refine zP ?_ ?_|refine zO ?_ (fun _=>?_))|refine zP ?_ ?_|refine zO ?_ (fun _=>?_)
theorem Fn.mono : ∀ a0 k,LeO (Fn.f k a0) (Fn.f (k+1) a0):=by
 intro a0 k;have ih0:=Fn.mono_l k;unfold Fn.f
 repeat' first|(with_reducible first|exact ih0 _ _ _|exact zQ _|exact zN _|refine zP ?_ ?_|refine zO ?_ (fun _=>?_))|refine zP ?_ ?_|refine zO ?_ (fun _=>?_)
set_option maxHeartbeats 8000000 in
set_option maxRecDepth 100000 in
theorem Fn.calls (k : Nat) (a0 : ByteArray) (r : Bool) (w : World) (h : Fn.f k a0=some r) :
  Calls Try.prog 47 #[.string a0] w fun e w' => e = .returned (.bool r)∧Drawn0 w w':=by
 have H : (Fn.l0 k a0 (a0.size : Int) 0)=some r:=h;clear h;have H':=zh H;clear H
 go_enter Try.func47,Try.ntmps47
 go_wp2
 go_loopg [6] k (fun kq v6 w' => ∃ (x6_1 : Int),v6 = .int .i64 x6_1∧Aside0 (Fn.l0 kq a0 (a0.size : Int) x6_1=some r)∧Aside0 (kq≤k)∧Drawn0 w w')
 case atStart=>exact ⟨(0),(by first|rfl|(simp;done)|(simp [*];done)),H',⟨ye _⟩,by repeat (first|exact yp _|apply yq)⟩
 case round =>
  clear H';obtain ⟨x6_1,rfl,HA,HK1,⟨m1,rfl⟩⟩:=hrel
  cases gk with
  | zero=>exact absurd HA.out (by simp [Fn.l0])
  | succ k1 =>
   have H:=HA.out;clear HA;simp only [Fn.l0] at H
   by_cases c2 : x6_1<(a0.size : Int)
   ·
    rw [if_pos c2] at H
    have c2b0 : decide (x6_1<(a0.size : Int))=true:=decide_eq_true c2;clear c2
    by_cases c3 : 0≤x6_1
    ·
     rw [if_pos c3] at H
     have c3b0 : decide (0≤x6_1)=true:=decide_eq_true c3;clear c3
     by_cases c4 : x6_1<(a0.size : Int)
     ·
      rw [if_pos c4] at H
      have c4b0 : decide (x6_1<(a0.size : Int))=true:=decide_eq_true c4;clear c4;replace H:=zT.mp H;obtain ⟨t218,A60,H⟩:=H;replace H : (if t218=true then (Fn.l0 k1 a0 (a0.size : Int) (wrap64 (x6_1+1))) else ((F0c.f (bt a0 x6_1)).bind fun t219=>(if t219=true then (if x6_1=0 then (some false) else (Fn.l0 k1 a0 (a0.size : Int) (wrap64 (x6_1+1)))) else (some false))))=some r:=H;have A6:=zh A60;clear A60
      by_cases c7 : t218=true
      ·
       subst c7
       have H1 : (Fn.l0 k1 a0 (a0.size : Int) (wrap64 (x6_1+1)))=some r:=by rw [if_pos rfl] at H;exact H
       clear H;have H:=H1;clear H1;have H':=zh H;clear H;have p5 : 0≤(x6_1 : Int):=zy (by first|(with_reducible assumption)|assumption);have q5 : x6_1<(a0.size : Int):=zy (by first|(with_reducible assumption)|assumption);have hx5:=bt_at a0 x6_1;replace p5:=eq_true p5;replace q5:=eq_true q5
       go_wp2_with (first|((with_reducible refine zJ (f:=67) rfl ?_);refine yj (some 12) rfl rfl Try.func67 (by kernel_rfl) rfl #[.int .u8 (bt a0 x6_1)] rfl (by (try simp only [zt,zu,zv]);first|done|rfl|(simp only [zw,zx];rfl)|(simp only [yr,ys,zV,zW];rfl)) ?_;(with_reducible refine (F0e.calls  (bt a0 x6_1) true _ A6.out).mono ?_);rintro e w' ⟨rfl,⟨nd,rfl⟩⟩;refine ⟨_,rfl,?_⟩))
       go_roundg k1
       case measure=>have:=HK1.out;omega
       case rel=>exact ⟨(wrap64 (x6_1+1)),(by first|rfl|(simp;done)|(simp [*];done)),H',⟨by have:=HK1.out;omega⟩,by repeat (first|exact yp _|apply yq)⟩
      replace c7:=yb.mpr c7;subst c7;have H1 : ((F0c.f (bt a0 x6_1)).bind fun t219=>(if t219=true then (if x6_1=0 then (some false) else (Fn.l0 k1 a0 (a0.size : Int) (wrap64 (x6_1+1)))) else (some false)))=some r:=by rw [if_neg (show ¬ (false=true) by decide)] at H;exact H
      clear H;have H:=H1;clear H1;replace H:=zT.mp H;obtain ⟨t219,A90,H⟩:=H;replace H : (if t219=true then (if x6_1=0 then (some false) else (Fn.l0 k1 a0 (a0.size : Int) (wrap64 (x6_1+1)))) else (some false))=some r:=H;have A9:=zh A90;clear A90
      by_cases c10 : t219=true
      ·
       subst c10
       have H1 : (if x6_1=0 then (some false) else (Fn.l0 k1 a0 (a0.size : Int) (wrap64 (x6_1+1))))=some r:=by rw [if_pos rfl] at H;exact H
       clear H;have H:=H1;clear H1
       by_cases c11 : x6_1=0
       ·
        rw [if_pos c11] at H
        have c11b0 : (x6_1 == 0)=true:=ya.mpr c11;have c11b1 : (x6_1 != 0)=false:=zX.mpr c11;clear c11;obtain rfl:=zU H;have p5 : 0≤(x6_1 : Int):=zy (by first|(with_reducible assumption)|assumption);have q5 : x6_1<(a0.size : Int):=zy (by first|(with_reducible assumption)|assumption);have hx5:=bt_at a0 x6_1;replace p5:=eq_true p5;replace q5:=eq_true q5
        go_wp2_with (first|((with_reducible refine zJ (f:=67) rfl ?_);refine yj (some 12) rfl rfl Try.func67 (by kernel_rfl) rfl #[.int .u8 (bt a0 x6_1)] rfl (by (try simp only [zt,zu,zv]);first|done|rfl|(simp only [zw,zx];rfl)|(simp only [yr,ys,zV,zW];rfl)) ?_;(with_reducible refine (F0e.calls  (bt a0 x6_1) false _ A6.out).mono ?_);rintro e w' ⟨rfl,⟨nd,rfl⟩⟩;refine ⟨_,rfl,?_⟩;have p8 : 0≤(x6_1 : Int):=zy (by first|(with_reducible assumption)|assumption);have q8 : x6_1<(a0.size : Int):=zy (by first|(with_reducible assumption)|assumption);have hx8:=bt_at a0 x6_1;replace p8:=eq_true p8;replace q8:=eq_true q8)|(go_at_call 68;(with_reducible refine (F0c.calls  (bt a0 x6_1) true _ A9.out).mono ?_);rintro e w' ⟨rfl,⟨nd,rfl⟩⟩))
        go_ret
        exact ⟨by first|rfl|(simp;done)|(simp [*];done),by repeat (first|exact yp _|apply yq)⟩
       rw [if_neg c11] at H;have c11b0 : (x6_1 == 0)=false:=zY.mpr c11;have c11b1 : (x6_1 != 0)=true:=zZ.mpr c11;have H':=zh H;clear H;have p5 : 0≤(x6_1 : Int):=zy (by first|(with_reducible assumption)|assumption);have q5 : x6_1<(a0.size : Int):=zy (by first|(with_reducible assumption)|assumption);have hx5:=bt_at a0 x6_1;replace p5:=eq_true p5;replace q5:=eq_true q5
       go_wp2_with (first|((with_reducible refine zJ (f:=67) rfl ?_);refine yj (some 12) rfl rfl Try.func67 (by kernel_rfl) rfl #[.int .u8 (bt a0 x6_1)] rfl (by (try simp only [zt,zu,zv]);first|done|rfl|(simp only [zw,zx];rfl)|(simp only [yr,ys,zV,zW];rfl)) ?_;(with_reducible refine (F0e.calls  (bt a0 x6_1) false _ A6.out).mono ?_);rintro e w' ⟨rfl,⟨nd,rfl⟩⟩;refine ⟨_,rfl,?_⟩;have p8 : 0≤(x6_1 : Int):=zy (by first|(with_reducible assumption)|assumption);have q8 : x6_1<(a0.size : Int):=zy (by first|(with_reducible assumption)|assumption);have hx8:=bt_at a0 x6_1;replace p8:=eq_true p8;replace q8:=eq_true q8)|(go_at_call 68;(with_reducible refine (F0c.calls  (bt a0 x6_1) true _ A9.out).mono ?_);rintro e w' ⟨rfl,⟨nd,rfl⟩⟩))
       go_roundg k1
       case measure=>have:=HK1.out;omega
       case rel=>exact ⟨(wrap64 (x6_1+1)),(by first|rfl|(simp;done)|(simp [*];done)),H',⟨by have:=HK1.out;omega⟩,by repeat (first|exact yp _|apply yq)⟩
      replace c10:=yb.mpr c10;subst c10;have H1 : (some false)=some r:=by rw [if_neg (show ¬ (false=true) by decide)] at H;exact H
      clear H;have H:=H1;clear H1;obtain rfl:=zU H;have p5 : 0≤(x6_1 : Int):=zy (by first|(with_reducible assumption)|assumption);have q5 : x6_1<(a0.size : Int):=zy (by first|(with_reducible assumption)|assumption);have hx5:=bt_at a0 x6_1;replace p5:=eq_true p5;replace q5:=eq_true q5
      go_wp2_with (first|((with_reducible refine zJ (f:=67) rfl ?_);refine yj (some 12) rfl rfl Try.func67 (by kernel_rfl) rfl #[.int .u8 (bt a0 x6_1)] rfl (by (try simp only [zt,zu,zv]);first|done|rfl|(simp only [zw,zx];rfl)|(simp only [yr,ys,zV,zW];rfl)) ?_;(with_reducible refine (F0e.calls  (bt a0 x6_1) false _ A6.out).mono ?_);rintro e w' ⟨rfl,⟨nd,rfl⟩⟩;refine ⟨_,rfl,?_⟩;have p8 : 0≤(x6_1 : Int):=zy (by first|(with_reducible assumption)|assumption);have q8 : x6_1<(a0.size : Int):=zy (by first|(with_reducible assumption)|assumption);have hx8:=bt_at a0 x6_1;replace p8:=eq_true p8;replace q8:=eq_true q8)|(go_at_call 68;(with_reducible refine (F0c.calls  (bt a0 x6_1) false _ A9.out).mono ?_);rintro e w' ⟨rfl,⟨nd,rfl⟩⟩))
      go_ret
      exact ⟨by first|rfl|(simp;done)|(simp [*];done),by repeat (first|exact yp _|apply yq)⟩
     rw [if_neg c4] at H;exact absurd H (by simp)
    rw [if_neg c3] at H;exact absurd H (by simp)
   rw [if_neg c2] at H;have c2b0 : decide (x6_1<(a0.size : Int))=false:=decide_eq_false c2;clear c2;replace H:=zT.mp H;obtain ⟨t217,A120,H⟩:=H;replace H : (some t217)=some r:=H;have A12:=zh A120;clear A120;obtain rfl:=zU H
   go_wp2_with (first|((with_reducible refine zJ (f:=69) rfl ?_);refine yj (some 28) rfl rfl Try.func69 (by kernel_rfl) rfl #[.int .i64 (a0.size : Int),.int .i64 1,.int .i64 40] rfl (by (try simp only [zt,zu,zv]);first|done|rfl|(simp only [zw,zx];rfl)|(simp only [yr,ys,zV,zW];rfl)) ?_;(with_reducible refine (F06.calls  (a0.size : Int) 1 40 t217 _ A12.out).mono ?_);rintro e w' ⟨rfl,⟨nd,rfl⟩⟩;refine ⟨_,rfl,?_⟩))
   go_ret
   exact ⟨by first|rfl|(simp;done)|(simp [*];done),by repeat (first|exact yp _|apply yq)⟩


def Fw.f (k : Nat) (a0 : ByteArray) : Option (Bool):=if (a0.size : Int)≤12 then ((Fn.f k a0).bind fun t220=>(some t220)) else (some false)
theorem Fw.mono : ∀ a0 k,LeO (Fw.f k a0) (Fw.f (k+1) a0):=by
 intro a0 k;unfold Fw.f
 repeat' first|(with_reducible first|exact Fn.mono _ _|exact zQ _|exact zN _|refine zP ?_ ?_|refine zO ?_ (fun _=>?_))|refine zP ?_ ?_|refine zO ?_ (fun _=>?_)
set_option maxHeartbeats 8000000 in
set_option maxRecDepth 100000 in
theorem Fw.calls (k : Nat) (a0 : ByteArray) (r : Bool) (w : World) (h : Fw.f k a0=some r) :
  Calls Try.prog 25 #[.string a0] w fun e w' => e = .returned (.bool r)∧Drawn0 w w':=by
 have H : (if (a0.size : Int)≤12 then ((Fn.f k a0).bind fun t220=>(some t220)) else (some false))=some r:=h;clear h
 by_cases c2 : (a0.size : Int)≤12
 ·
  rw [if_pos c2] at H
  have c2b0 : decide ((a0.size : Int)≤12)=true:=decide_eq_true c2;have c2b1 : decide (a0.size≤12)=true:=decide_eq_true (by omega);clear c2;replace H:=zT.mp H;obtain ⟨t220,A30,H⟩:=H;replace H : (some t220)=some r:=H;have A3:=zh A30;clear A30;obtain rfl:=zU H
  go_enter Try.func25,Try.ntmps25
  go_wp2_with (first|(go_at_call 47;(with_reducible refine (Fn.calls k  a0 t220 _ A3.out).mono ?_);rintro e w' ⟨rfl,⟨nd,rfl⟩⟩))
  go_ret
  exact ⟨by first|rfl|(simp;done)|(simp [*];done),by repeat (first|exact yp _|apply yq)⟩
 rw [if_neg c2] at H;have c2b0 : decide ((a0.size : Int)≤12)=false:=decide_eq_false c2;have c2b1 : decide (a0.size≤12)=false:=decide_eq_false (by omega);clear c2;obtain rfl:=zU H
 go_enter Try.func25,Try.ntmps25
 go_wp2
 go_ret
 exact ⟨by first|rfl|(simp;done)|(simp [*];done),by repeat (first|exact yp _|apply yq)⟩


def F07.f (G : Int→Int→ByteArray→Int→Option (Bool)) (a0_0 : Int) (a0_1 : Int) (a0_2 : ByteArray) (a1_0 : Int) : Option (Bool):=(G a0_0 a0_1 a0_2 (wrap64 (a1_0 - 1))).bind fun t312=>(some (!t312))
theorem F07.mono : ∀ (G G' : Int→Int→ByteArray→Int→Option (Bool)) (hG : ∀ y0 y1 y2 y3,LeO (G y0 y1 y2 y3) (G' y0 y1 y2 y3)),∀ a0 a1 a2 a3,LeO (F07.f G a0 a1 a2 a3) (F07.f G' a0 a1 a2 a3):=by
 intro G G' hG a0 a1 a2 a3;unfold F07.f
 repeat' first|(with_reducible first|exact hG _ _ _ _|exact zQ _|exact zN _|refine zP ?_ ?_|refine zO ?_ (fun _=>?_))|refine zP ?_ ?_|refine zO ?_ (fun _=>?_)
set_option maxHeartbeats 8000000 in
set_option maxRecDepth 100000 in
theorem F07.calls (G : Int→Int→ByteArray→Int→Option (Bool)) (hG : ∀ (a0_0 : Int) (a0_1 : Int) (a0_2 : ByteArray) (a1 : Int) (r : Bool) (w : World) (h : G a0_0 a0_1 a0_2 a1=some r),Calls Try.prog 48 #[.agg #[.int .i64 a0_0,.int .i64 a0_1,.string a0_2],.int .i64 a1] w fun e w' => e = .returned (.bool r)∧Below w.heap.size w w') (a0_0 : Int) (a0_1 : Int) (a0_2 : ByteArray) (g1_0_ : Nat) (a1_0 : Int) (r : Bool) (w : World) (hb1_0_ : w.heap[g1_0_]? = some (.cells #[.int .i64 a1_0] 3 (0,0))) (h : F07.f G a0_0 a0_1 a0_2 a1_0=some r) :
  Calls Try.prog 72 #[.agg #[.int .i64 a0_0,.int .i64 a0_1,.string a0_2],.pointer (some ⟨g1_0_,0,none⟩)] w fun e w' => e = .returned (.bool r)∧Below w.heap.size w w':=by
 have hu25:=Try.underlying25;have BK910:=zh hb1_0_;clear hb1_0_;have HB:=zh (Below.refl w.heap.size w);have H : ((G a0_0 a0_1 a0_2 (wrap64 (a1_0 - 1))).bind fun t312=>(some (!t312)))=some r:=h;clear h;replace H:=zT.mp H;obtain ⟨t312,A30,H⟩:=H;replace H : (some (!t312))=some r:=H;have A3:=zh A30;clear A30;obtain rfl:=zU H
 go_enter Try.func72,Try.ntmps72
 go_wp2_with (first|((with_reducible refine zK (N:=2) rfl ?_);refine zI ?hg (N:=2) ?hd (cs:=#[.int .i64 a0_0,.int .i64 a0_1,.string a0_2]) (t:=25) ?hr ?_;(case hd=>rfl);(case hg=>rfl);(case hr=>go_simp <;> rfl);intro gb311 hg w4 hbox hb;have BK311:=zh (hbox);have hH_:=cH (by repeat (with_reducible first|exact HB.out|apply za|apply zb|apply zc|refine zd ?_ GE910.out)) hb hg;have GW311:=zh hH_.1;have GE311:=GW311;replace HB:=zh hH_.2;have NB910_311:=zh ((by rw [hg];exact yc (yi (g:=g1_0_) (o:=.cells #[.int .i64 a1_0] 3 (0,0)) (by (with_reducible repeat first|apply ze|apply zf|apply zg);exact BK910.out)) : g1_0_≠gb311));have NB311_910:=zh ((by rw [hg];exact yd (yi (g:=g1_0_) (o:=.cells #[.int .i64 a1_0] 3 (0,0)) (by (with_reducible repeat first|apply ze|apply zf|apply zg);exact BK910.out)) : gb311≠g1_0_));replace BK910:=zh (zD (g:=g1_0_) (o:=.cells #[.int .i64 a1_0] 3 (0,0)) (by (with_reducible repeat first|apply ze|apply zf|apply zg);exact BK910.out) hb);clear hb hbox hg hH_;have hnb5:=NB311_910.out;have hnc5:=NB910_311.out;obtain ⟨hcz6_0,hcz6_1,hcz6_2,hfz6_0,hfz6_1,hfz6_2⟩:=cB3 BK311.out;have hcz7_0 : w4.cell? ⟨g1_0_,0,none⟩=some (.int .i64 a1_0):=(zz BK910.out 0).trans rfl;have hfz7_0:=zA BK910.out 0)|((with_reducible refine zJ (f:=48) rfl ?_);refine yj (some 7) rfl rfl Try.func48 (by kernel_rfl) rfl #[.agg #[.int .i64 a0_0,.int .i64 a0_1,.string a0_2],.int .i64 (wrap64 (a1_0 - 1))] rfl (by (try simp only [zt,zu,zv]);first|done|rfl|(simp only [zw,zx];rfl)|(simp only [yr,ys,zV,zW];rfl)) ?_;(with_reducible refine (hG a0_0 a0_1 a0_2 (wrap64 (a1_0 - 1)) t312 _ A3.out).mono ?_);rintro e w8 ⟨rfl,hb⟩;refine ⟨_,rfl,?_⟩;replace BK910:=zh (zD (g:=g1_0_) (o:=.cells #[.int .i64 a1_0] 3 (0,0)) (by (with_reducible repeat first|apply ze|apply zf|apply zg);exact BK910.out) hb);replace BK311:=zh (cD BK311.out (by (with_reducible repeat first|apply ze|apply zf|apply zg);exact BK311.out) hb);replace HB:=zh (zC (by repeat (with_reducible first|exact HB.out|apply za|apply zb|apply zc|refine zd ?_ GE910.out|refine zd ?_ GE311.out)) hb);(try clear hb);(try clear hb2);(try clear hk);(try clear hi)))
 go_ret
 exact ⟨by first|rfl|(simp [yt,yu] <;> rfl)|(simp [*,yt,yu] <;> rfl),by repeat (with_reducible first|exact HB.out|apply za|apply zb|apply zc|refine zd ?_ GE910.out|refine zd ?_ GE311.out)⟩


def Fv.l0 (G : Int→Int→ByteArray→Int→Option (Bool)) : Nat→List (S25)→Int→Int→Int→Option (Int)
 | 0,_,_,_,_=>none
 | k+1,x0,x7,x8,x911000=>if x8<x7 then (if 0≤x8 then (if x8<(x0.length : Int) then ((F07.f G ((rd_T25 x0 x8).f0) ((rd_T25 x0 x8).f1) ((rd_T25 x0 x8).f2) x911000).bind fun t314=>(if t314=true then (some x8) else (Fv.l0 G k x0 x7 (wrap64 (x8+1)) x911000))) else (none)) else (none)) else (some (-1))
def Fv.f (k : Nat) (G : Int→Int→ByteArray→Int→Option (Bool)) (l0 : List (S25)) (a1_0 : Int) : Option (Int):=Fv.l0 G k l0 (l0.length : Int) 0 a1_0
theorem Fv.mono_l : ∀ (G G' : Int→Int→ByteArray→Int→Option (Bool)) (hG : ∀ y0 y1 y2 y3,LeO (G y0 y1 y2 y3) (G' y0 y1 y2 y3)),∀ k,(∀ y0 y1 y2 y3,LeO (Fv.l0 G k y0 y1 y2 y3) (Fv.l0 G' (k+1) y0 y1 y2 y3))
 | G,G',hG,0=>fun _ _ _ _ r h=>by simp [Fv.l0] at h
 | G,G',hG,k+1=>by
  have ih0:=Fv.mono_l G G' hG k;intro y0 y1 y2 y3;unfold Fv.l0
  repeat' first|(with_reducible first|exact ih0 _ _ _ _|exact hG _ _ _ _|exact F07.mono _ _ hG _ _ _ _|exact zQ _|exact zN _|refine zP ?_ ?_|refine zO ?_ (fun _=>?_))|refine zP ?_ ?_|refine zO ?_ (fun _=>?_)
theorem Fv.mono : ∀ (G G' : Int→Int→ByteArray→Int→Option (Bool)) (hG : ∀ y0 y1 y2 y3,LeO (G y0 y1 y2 y3) (G' y0 y1 y2 y3)),∀ a0 a1 k,LeO (Fv.f k G a0 a1) (Fv.f (k+1) G' a0 a1):=by
 intro G G' hG a0 a1 k;have ih0:=Fv.mono_l G G' hG k;unfold Fv.f
 repeat' first|(with_reducible first|exact ih0 _ _ _ _|exact hG _ _ _ _|exact F07.mono _ _ hG _ _ _ _|exact zQ _|exact zN _|refine zP ?_ ?_|refine zO ?_ (fun _=>?_))|refine zP ?_ ?_|refine zO ?_ (fun _=>?_)
set_option maxHeartbeats 8000000 in
set_option maxRecDepth 100000 in
theorem Fv.calls (k : Nat) (G : Int→Int→ByteArray→Int→Option (Bool)) (hG : ∀ (a0_0 : Int) (a0_1 : Int) (a0_2 : ByteArray) (a1 : Int) (r : Bool) (w : World) (h : G a0_0 a0_1 a0_2 a1=some r),Calls Try.prog 48 #[.agg #[.int .i64 a0_0,.int .i64 a0_1,.string a0_2],.int .i64 a1] w fun e w' => e = .returned (.bool r)∧Below w.heap.size w w') (A0 : Option Addr) (c0 : Nat) (l0 : List (S25)) (g1_0_ : Nat) (a1_0 : Int) (r : Int) (w : World) (hr0 : Kd.C k25 w A0 l0.length l0) (hc0 : l0.length≤c0) (hb1_0_ : w.heap[g1_0_]? = some (.cells #[.int .i64 a1_0] 3 (0,0))) (h : Fv.f k G l0 a1_0=some r) :
  Calls Try.prog 78 #[.slice A0 l0.length c0,.func (.func 72) #[] #[.pointer (some ⟨g1_0_,0,none⟩)]] w fun e w' => e = .returned (.int .i64 r)∧Below w.heap.size w w':=by
 have hu25:=Try.underlying25;have HR0:=zh hr0;have HC0:=zh hc0;clear hr0 hc0;have BK910:=zh hb1_0_;clear hb1_0_;have HB:=zh (Below.refl w.heap.size w);have H : (Fv.l0 G k l0 (l0.length : Int) 0 a1_0)=some r:=h;clear h;have H':=zh H;clear H
 go_enter Try.func78,Try.ntmps78
 go_wp2
 go_loopg [8] k (fun kq v8 w' => ∃ (x8_1 : Int),v8 = .int .i64 x8_1∧Aside0 (Fv.l0 G kq l0 (l0.length : Int) x8_1 a1_0=some r)∧Aside0 (kq≤k)∧Aside0 (w'.heap[g1_0_]? = some (.cells #[.int .i64 a1_0] 3 (0,0)))∧Aside0 (Below w.heap.size w w'))
 case atStart=>exact ⟨(0),(by first|rfl|(simp;done)|(simp [*];done)),H',⟨ye _⟩,⟨by (with_reducible repeat first|apply ze|apply zf|apply zg);exact BK910.out⟩,⟨by repeat (with_reducible first|exact HB.out|apply za|apply zb|apply zc|refine zd ?_ GE910.out)⟩⟩
 case round =>
  clear H'
  try clear p2
  obtain ⟨x8_1,rfl,HA,HK1,BK910,HB⟩:=hrel
  cases gk with
  | zero=>exact absurd HA.out (by simp [Fv.l0])
  | succ k1 =>
   have H:=HA.out;clear HA;simp only [Fv.l0] at H
   by_cases c3 : x8_1<(l0.length : Int)
   ·
    rw [if_pos c3] at H
    have c3b0 : decide (x8_1<(l0.length : Int))=true:=decide_eq_true c3;clear c3
    by_cases c4 : 0≤x8_1
    ·
     rw [if_pos c4] at H
     have c4b0 : decide (0≤x8_1)=true:=decide_eq_true c4;clear c4
     by_cases c5 : x8_1<(l0.length : Int)
     ·
      rw [if_pos c5] at H
      have c5b0 : decide (x8_1<(l0.length : Int))=true:=decide_eq_true c5;clear c5;replace H:=zT.mp H;obtain ⟨t314,A60,H⟩:=H;replace H : (if t314=true then (some x8_1) else (Fv.l0 G k1 l0 (l0.length : Int) (wrap64 (x8_1+1)) a1_0))=some r:=H;have A6:=zh A60;clear A60
      by_cases c7 : t314=true
      ·
       subst c7
       have H1 : (some x8_1)=some r:=by rw [if_pos rfl] at H;exact H
       clear H;have H:=H1;clear H1;obtain rfl:=zU H;have p313 : 0≤(x8_1 : Int):=zy (by first|(with_reducible assumption)|assumption);have q313 : x8_1<(l0.length : Int):=zy (by first|(with_reducible assumption)|assumption);obtain ⟨ad313,e313,hx313_0,hx313_1,hx313_2⟩:=at_T25 HR0.out x8_1 p313 q313
       cases e313
       replace hx313_0:=(HB.out.cell (zl w _ hx313_0)).trans hx313_0;replace hx313_1:=(HB.out.cell (zl w _ hx313_1)).trans hx313_1;replace hx313_2:=(HB.out.cell (zl w _ hx313_2)).trans hx313_2;replace p313:=eq_true p313;replace q313:=eq_true q313
       go_wp2_with (first|(go_at_call 72;(with_reducible refine (F07.calls G hG ((rd_T25 l0 x8_1).f0) ((rd_T25 l0 x8_1).f1) ((rd_T25 l0 x8_1).f2) g1_0_ a1_0 true _ ?side1 A6.out).mono ?_);(case side1=>(with_reducible repeat first|apply ze|apply zf|apply zg);exact BK910.out);rintro e w8 ⟨rfl,hb⟩;replace BK910:=zh (zD (g:=g1_0_) (o:=.cells #[.int .i64 a1_0] 3 (0,0)) (by (with_reducible repeat first|apply ze|apply zf|apply zg);exact BK910.out) hb);replace HB:=zh (zC (by repeat (with_reducible first|exact HB.out|apply za|apply zb|apply zc|refine zd ?_ GE910.out)) hb);(try clear hb);(try clear hb2);(try clear hk);(try clear hi)))
       go_ret
       exact ⟨by first|rfl|(simp [yt,yu] <;> rfl)|(simp [*,yt,yu] <;> rfl),by repeat (with_reducible first|exact HB.out|apply za|apply zb|apply zc|refine zd ?_ GE910.out)⟩
      replace c7:=yb.mpr c7;subst c7;have H1 : (Fv.l0 G k1 l0 (l0.length : Int) (wrap64 (x8_1+1)) a1_0)=some r:=by rw [if_neg (show ¬ (false=true) by decide)] at H;exact H
      clear H;have H:=H1;clear H1;have H':=zh H;clear H;have p313 : 0≤(x8_1 : Int):=zy (by first|(with_reducible assumption)|assumption);have q313 : x8_1<(l0.length : Int):=zy (by first|(with_reducible assumption)|assumption);obtain ⟨ad313,e313,hx313_0,hx313_1,hx313_2⟩:=at_T25 HR0.out x8_1 p313 q313
      cases e313
      replace hx313_0:=(HB.out.cell (zl w _ hx313_0)).trans hx313_0;replace hx313_1:=(HB.out.cell (zl w _ hx313_1)).trans hx313_1;replace hx313_2:=(HB.out.cell (zl w _ hx313_2)).trans hx313_2;replace p313:=eq_true p313;replace q313:=eq_true q313
      go_wp2_with (first|(go_at_call 72;(with_reducible refine (F07.calls G hG ((rd_T25 l0 x8_1).f0) ((rd_T25 l0 x8_1).f1) ((rd_T25 l0 x8_1).f2) g1_0_ a1_0 false _ ?side1 A6.out).mono ?_);(case side1=>(with_reducible repeat first|apply ze|apply zf|apply zg);exact BK910.out);rintro e w9 ⟨rfl,hb⟩;replace BK910:=zh (zD (g:=g1_0_) (o:=.cells #[.int .i64 a1_0] 3 (0,0)) (by (with_reducible repeat first|apply ze|apply zf|apply zg);exact BK910.out) hb);replace HB:=zh (zC (by repeat (with_reducible first|exact HB.out|apply za|apply zb|apply zc|refine zd ?_ GE910.out)) hb);(try clear hb);(try clear hb2);(try clear hk);(try clear hi)))
      go_roundg k1
      case measure=>have:=HK1.out;omega
      case rel=>exact ⟨(wrap64 (x8_1+1)),(by first|rfl|(simp;done)|(simp [*];done)),H',⟨by have:=HK1.out;omega⟩,⟨by (with_reducible repeat first|apply ze|apply zf|apply zg);exact BK910.out⟩,⟨by repeat (with_reducible first|exact HB.out|apply za|apply zb|apply zc|refine zd ?_ GE910.out)⟩⟩
     rw [if_neg c5] at H;exact absurd H (by simp)
    rw [if_neg c4] at H;exact absurd H (by simp)
   rw [if_neg c3] at H;have c3b0 : decide (x8_1<(l0.length : Int))=false:=decide_eq_false c3;clear c3;obtain rfl:=zU H
   go_wp2
   go_ret
   exact ⟨by first|rfl|(simp [yt,yu] <;> rfl)|(simp [*,yt,yu] <;> rfl),by repeat (with_reducible first|exact HB.out|apply za|apply zb|apply zc|refine zd ?_ GE910.out)⟩


def Fb.f (k : Nat) (G : Int→Int→ByteArray→Int→Option (Bool)) (l0 : List (S25)) (a1_0 : Int) : Option (Bool):=(Fv.f k G l0 a1_0).bind fun t315=>(some (decide (t315 ≥ 0)))
theorem Fb.mono : ∀ (G G' : Int→Int→ByteArray→Int→Option (Bool)) (hG : ∀ y0 y1 y2 y3,LeO (G y0 y1 y2 y3) (G' y0 y1 y2 y3)),∀ a0 a1 k,LeO (Fb.f k G a0 a1) (Fb.f (k+1) G' a0 a1):=by
 intro G G' hG a0 a1 k;unfold Fb.f
 repeat' first|(with_reducible first|exact hG _ _ _ _|exact Fv.mono _ _ hG _ _ _|exact zQ _|exact zN _|refine zP ?_ ?_|refine zO ?_ (fun _=>?_))|refine zP ?_ ?_|refine zO ?_ (fun _=>?_)
set_option maxHeartbeats 8000000 in
set_option maxRecDepth 100000 in
theorem Fb.calls (k : Nat) (G : Int→Int→ByteArray→Int→Option (Bool)) (hG : ∀ (a0_0 : Int) (a0_1 : Int) (a0_2 : ByteArray) (a1 : Int) (r : Bool) (w : World) (h : G a0_0 a0_1 a0_2 a1=some r),Calls Try.prog 48 #[.agg #[.int .i64 a0_0,.int .i64 a0_1,.string a0_2],.int .i64 a1] w fun e w' => e = .returned (.bool r)∧Below w.heap.size w w') (A0 : Option Addr) (c0 : Nat) (l0 : List (S25)) (g1_0_ : Nat) (a1_0 : Int) (r : Bool) (w : World) (hr0 : Kd.C k25 w A0 l0.length l0) (hc0 : l0.length≤c0) (hb1_0_ : w.heap[g1_0_]? = some (.cells #[.int .i64 a1_0] 3 (0,0))) (h : Fb.f k G l0 a1_0=some r) :
  Calls Try.prog 57 #[.slice A0 l0.length c0,.func (.func 72) #[] #[.pointer (some ⟨g1_0_,0,none⟩)]] w fun e w' => e = .returned (.bool r)∧Below w.heap.size w w':=by
 have HR0:=zh hr0;have HC0:=zh hc0;clear hr0 hc0;have BK910:=zh hb1_0_;clear hb1_0_;have HB:=zh (Below.refl w.heap.size w);have H : ((Fv.f k G l0 a1_0).bind fun t315=>(some (decide (t315 ≥ 0))))=some r:=h;clear h;replace H:=zT.mp H;obtain ⟨t315,A30,H⟩:=H;replace H : (some (decide (t315 ≥ 0)))=some r:=H;have A3:=zh A30;clear A30;obtain rfl:=zU H
 go_enter Try.func57,Try.ntmps57
 go_wp2_with (first|((with_reducible refine zJ (f:=78) rfl ?_);refine yj (some 7) rfl rfl Try.func78 (by kernel_rfl) rfl #[.slice A0 l0.length c0,.func (.func 72) #[] #[.pointer (some ⟨g1_0_,0,none⟩)]] rfl (by (try simp only [zt,zu,zv]);first|done|rfl|(simp only [zw,zx];rfl)|(simp only [yr,ys,zV,zW];rfl)) ?_;(with_reducible refine (Fv.calls k G hG _ _ l0 g1_0_ a1_0 t315 _ ?side1 ?side2 ?side3 A3.out).mono ?_);(case side1=>repeat (first|exact HR0.out|(with_reducible refine Kd.C_alloc ?_ _)|(with_reducible refine Kd.C_drewN ?_ _)|(with_reducible refine Kd.C_drew ?_)));(case side2=>exact HC0.out);(case side3=>(with_reducible repeat first|apply ze|apply zf|apply zg);exact BK910.out);rintro e w4 ⟨rfl,hb⟩;refine ⟨_,rfl,?_⟩;replace BK910:=zh (zD (g:=g1_0_) (o:=.cells #[.int .i64 a1_0] 3 (0,0)) (by (with_reducible repeat first|apply ze|apply zf|apply zg);exact BK910.out) hb);replace HB:=zh (zC (by repeat (with_reducible first|exact HB.out|apply za|apply zb|apply zc|refine zd ?_ GE910.out)) hb);(try clear hb);(try clear hb2);(try clear hk);(try clear hi)))
 go_ret
 exact ⟨by first|rfl|(simp [yt,yu] <;> rfl)|(simp [*,yt,yu] <;> rfl),by repeat (with_reducible first|exact HB.out|apply za|apply zb|apply zc|refine zd ?_ GE910.out)⟩


def F0h.f (a0 : Int) : Option (Bool):=(F06.f a0 (-1000000000000) 1000000000000).bind fun t221=>(some t221)
set_option maxHeartbeats 8000000 in
set_option maxRecDepth 100000 in
theorem F0h.calls (a0 : Int) (r : Bool) (w : World) (h : F0h.f a0=some r) :
  Calls Try.prog 70 #[.int .i64 a0] w fun e w' => e = .returned (.bool r)∧Drawn0 w w':=by
 have H : ((F06.f a0 (-1000000000000) 1000000000000).bind fun t221=>(some t221))=some r:=h;clear h;replace H:=zT.mp H;obtain ⟨t221,A20,H⟩:=H;replace H : (some t221)=some r:=H;have A2:=zh A20;clear A20;obtain rfl:=zU H
 go_enter Try.func70,Try.ntmps70
 go_wp2_with (first|((with_reducible refine zJ (f:=69) rfl ?_);refine yj (some 4) rfl rfl Try.func69 (by kernel_rfl) rfl #[.int .i64 a0,.int .i64 (-1000000000000),.int .i64 1000000000000] rfl (by (try simp only [zt,zu,zv]);first|done|rfl|(simp only [zw,zx];rfl)|(simp only [yr,ys,zV,zW];rfl)) ?_;(with_reducible refine (F06.calls  a0 (-1000000000000) 1000000000000 t221 _ A2.out).mono ?_);rintro e w' ⟨rfl,⟨nd,rfl⟩⟩;refine ⟨_,rfl,?_⟩))
 go_ret
 exact ⟨by first|rfl|(simp;done)|(simp [*];done),by repeat (first|exact yp _|apply yq)⟩


def strings_Repeat.f (a0 : ByteArray) (a1 : Int) : Option (ByteArray):=if 0≤a1 then (if a0.size*a1.toNat≤140737488355328 then (if a1≤9223372036854775807 then (some ⟨(Lib.repeatL a0.data.toList a1.toNat).toArray⟩) else (none)) else (none)) else (none)
theorem strings_Repeat.calls (a0 : ByteArray) (a1 : Int) (r : ByteArray) (w : World) (h : strings_Repeat.f a0 a1=some r) :
  Calls Try.prog 79 #[.string a0,.int .i64 a1] w fun e w' => e = .returned (.string r)∧Below w.heap.size w w':=by
 unfold strings_Repeat.f at h
 by_cases h0 : 0≤a1
 ·
  rw [if_pos h0] at h
  by_cases h1 : a0.size*a1.toNat≤140737488355328
  ·
   rw [if_pos h1] at h
   by_cases h2 : a1≤9223372036854775807
   ·
    rw [if_pos h2] at h
    obtain rfl:=zU h;have:=Try.strings_Repeat a0 a1.toNat w (by omega) h1;rw [Int.toNat_of_nonneg h0] at this;exact this
   rw [if_neg h2] at h;exact absurd h (by simp)
  rw [if_neg h1] at h;exact absurd h (by simp)
 rw [if_neg h0] at h;exact absurd h (by simp)


def IsS89 (w0 W : World) (g : Nat) (f0 : ByteArray) (f1 : Bool) : Prop:=W.heap[g]? = some (.cells #[.string f0,.bool f1] 89 (0,0))∧w0.heap.size≤g
theorem IsS89.grown {w0 W : World} {g : Nat} {f0 : ByteArray} {f1 : Bool} {W1 : World} {row : Option Nat} (h : IsS89 w0 W g f0 f1) (hw : W.grownBy W1 row) (hne : some g≠row) : IsS89 w0 W1 g f0 f1:=by
 obtain ⟨hb,hg⟩:=h;exact ⟨yw hb hw hne,hg⟩
theorem IsS89.fresh {w0 W : World} {g : Nat} {f0 : ByteArray} {f1 : Bool} (h : IsS89 w0 W g f0 f1) : ∀ k,W.heap.size≤k→k≠g:=by
 obtain ⟨hb,hg⟩:=h;exact Kd.freshB hb
theorem IsS89.kept {w0 W : World} {g : Nat} {f0 : ByteArray} {f1 : Bool} {W1 : World} {S : Nat→Prop} (h : IsS89 w0 W g f0 f1) (hk : Kept W W1 S) (hne : ¬ S g) : IsS89 w0 W1 g f0 f1:=by
 obtain ⟨hb,hg⟩:=h;exact ⟨blk_kept hb hk hne,hg⟩
theorem IsS89.below {w0 W : World} {g : Nat} {f0 : ByteArray} {f1 : Bool} {W1 : World} (h : IsS89 w0 W g f0 f1) (hw : Below W.heap.size W W1) : IsS89 w0 W1 g f0 f1:=h.grown (grown_of_below hw none) (by simp)
theorem IsS89.alloc {w0 W : World} {g : Nat} {f0 : ByteArray} {f1 : Bool} (h : IsS89 w0 W g f0 f1) (o : Obj) : IsS89 w0 (W.alloc o) g f0 f1:=h.below (za (Below.refl _ _) o)
theorem IsS89.drewN {w0 W : World} {g : Nat} {f0 : ByteArray} {f1 : Bool} (h : IsS89 w0 W g f0 f1) (m : Nat) : IsS89 w0 (W.drewN m) g f0 f1:=h
theorem IsS89.drew {w0 W : World} {g : Nat} {f0 : ByteArray} {f1 : Bool} (h : IsS89 w0 W g f0 f1) : IsS89 w0 W.drew g f0 f1:=h
theorem IsS89.at_ {w0 W : World} {g : Nat} {f0 : ByteArray} {f1 : Bool} {w' : World} {m : Nat} (hq : W.drewN m=w') (h : IsS89 w0 W g f0 f1) : IsS89 w0 w' g f0 f1:=by subst hq;exact IsS89.drewN h m
theorem IsS89.apart {w0 W : World} {g : Nat} {f0 : ByteArray} {f1 : Bool} {α : Type} {d : Kd α} {e : Nat} {base : Nat} {ok : Nat→Prop} {v : Value} {xs : List α} (h : IsS89 w0 W g f0 f1) (ho : d.R e W base ok v xs) (ht : ∀ q,q ∈ e :: d.E→q≠89) : d.R e W base (fun k=>ok k∧k≠g) v xs:=by
 obtain ⟨hb,hg⟩:=h;exact yf ho hb ht
theorem IsS89.own_ne {w0 W : World} {g : Nat} {f0 : ByteArray} {f1 : Bool} {α : Type} {d : Kd α} {e : Nat} {base : Nat} {ok : Nat→Prop} {v : Value} {xs : List α} (h : IsS89 w0 W g f0 f1) (ho : d.R e W base ok v xs) (ht : e≠89) : some g≠v.ownBlock:=by
 obtain ⟨hb,hg⟩:=h;exact Kd.R_ne ho hb ht
theorem IsS89.lt {w0 W : World} {g : Nat} {f0 : ByteArray} {f1 : Bool} (h : IsS89 w0 W g f0 f1) : g<W.heap.size:=by
 obtain ⟨hb,hg⟩:=h;exact yi hb
theorem IsS89.ge {w0 W : World} {g : Nat} {f0 : ByteArray} {f1 : Bool} (h : IsS89 w0 W g f0 f1) : w0.heap.size≤g:=by
 obtain ⟨hb,hg⟩:=h;exact hg
theorem IsS89.far {w0 W : World} {g : Nat} {f0 : ByteArray} {f1 : Bool} {p : Addr} (h : IsS89 w0 W g f0 f1) (hne : g≠p.block) (u : Value) : IsS89 w0 (W.setCell p u) g f0 f1:=by
 obtain ⟨hb,hg⟩:=h;exact ⟨zS hb hne u,hg⟩
theorem cellS89_0 {W : World} {g : Nat} {f0 : ByteArray} {f1 : Bool} (h : W.heap[g]? = some (.cells #[.string f0,.bool f1] 89 (0,0))) : W.cell? ⟨g,0,none⟩=some (.string f0):=(zz h 0).trans rfl
theorem IsS89.set_0 {w0 W : World} {g : Nat} {f0 : ByteArray} {f1 : Bool} (h : IsS89 w0 W g f0 f1) (x : ByteArray) : IsS89 w0 (W.setCell ⟨g,0,none⟩ (.string x)) g x f1:=by
 obtain ⟨hb,hg⟩:=h;exact ⟨by simpa using blk_set hb 0 (.string x),hg⟩
theorem cellS89_1 {W : World} {g : Nat} {f0 : ByteArray} {f1 : Bool} (h : W.heap[g]? = some (.cells #[.string f0,.bool f1] 89 (0,0))) : W.cell? ⟨g,1,none⟩=some (.bool f1):=(zz h 1).trans rfl
theorem IsS89.set_1 {w0 W : World} {g : Nat} {f0 : ByteArray} {f1 : Bool} (h : IsS89 w0 W g f0 f1) (x : Bool) : IsS89 w0 (W.setCell ⟨g,1,none⟩ (.bool x)) g f0 x:=by
 obtain ⟨hb,hg⟩:=h;exact ⟨by simpa using blk_set hb 1 (.bool x),hg⟩
theorem IsS89.new (w0 W : World) (f0 : ByteArray) (f1 : Bool) (hB : Below w0.heap.size w0 W) : IsS89 w0 (W.alloc (.cells #[.string f0,.bool f1] 89)) W.heap.size f0 f1:=⟨by simpa using heap_alloc_new W _,hB.size⟩

def F03.f (s0_0 : ByteArray) (s0_1 : Bool) (a1 : Int) : Option (ByteArray×ByteArray×Bool):=if a1 > (s0_0.size : Int) then ((strings_Repeat.f (⟨#[0]⟩ : ByteArray) a1).bind fun t225=>(some (t225,s0_0,true))) else (if 0≤a1 then (if a1≤(s0_0.size : Int) then (some (s0_0.extract 0 (a1 : Int).toNat,s0_0.extract (a1 : Int).toNat s0_0.size,s0_1)) else (none)) else (none))
set_option maxHeartbeats 8000000 in
set_option maxRecDepth 100000 in
theorem F03.calls (g : Nat) (s0_0 : ByteArray) (s0_1 : Bool) (a1 : Int) (r1 : ByteArray) (r2 : ByteArray) (r3 : Bool) (w0 w : World) (hI : IsS89 w0 w g s0_0 s0_1) (hB : Below w0.heap.size w0 w) (h : F03.f s0_0 s0_1 a1=some (r1,r2,r3)) :
  Calls Try.prog 60 #[.pointer (some ⟨g,0,none⟩),.int .i64 a1] w fun e w' => e = .returned (.string r1)∧IsS89 w0 w' g r2 r3∧Below w0.heap.size w0 w' ∧ KeepBut w w' g none:=by
 have HI0:=zh hI;have HK:=zh (KeepBut.refl w g none);have HL:=zh hB.size;clear hI;have HW0:=zh hB.size;have HB:=zh hB;clear hB;have H : (if a1 > (s0_0.size : Int) then ((strings_Repeat.f (⟨#[0]⟩ : ByteArray) a1).bind fun t225=>(some (t225,s0_0,true))) else (if 0≤a1 then (if a1≤(s0_0.size : Int) then (some (s0_0.extract 0 (a1 : Int).toNat,s0_0.extract (a1 : Int).toNat s0_0.size,s0_1)) else (none)) else (none)))=some (r1,r2,r3):=h;clear h
 by_cases c3 : a1 > (s0_0.size : Int)
 ·
  rw [if_pos c3] at H
  have c3b0 : decide ((s0_0.size : Int)<a1)=true:=decide_eq_true c3;clear c3;replace H:=zT.mp H;obtain ⟨t225,A40,H⟩:=H;replace H : (some (t225,s0_0,true))=some (r1,r2,r3):=H;have A4:=zh A40;clear A40;simp only [Option.some.injEq,Prod.mk.injEq] at H;obtain ⟨rfl,rfl,rfl⟩:=H;obtain ⟨HGz5,hgz5⟩:=HI0.out;have hcz5_0:=cellS89_0 HGz5;have hcz5_1:=cellS89_1 HGz5;have hfz5_0:=zA HGz5 0;have hfz5_1:=zA HGz5 1;clear HGz5 hgz5
  go_enter Try.func60,Try.ntmps60
  go_wp2_with (first|((with_reducible refine zJ (f:=79) rfl ?_);refine yj (some 17) rfl rfl Try.func79 (by kernel_rfl) rfl #[.string (⟨#[0]⟩ : ByteArray),.int .i64 a1] rfl (by (try simp only [zt,zu,zv]);first|done|rfl|(simp only [zw,zx];rfl)|(simp only [yr,ys,zV,zW];rfl)) ?_;(with_reducible refine (strings_Repeat.calls  (⟨#[0]⟩ : ByteArray) a1 t225 _ A4.out).mono ?_);rintro e w6 ⟨rfl,hb⟩;refine ⟨_,rfl,?_⟩;replace HK:=zh (KeepBut.trans (by repeat (with_reducible first|exact HK.out|apply yl|apply ym|apply yx|apply yn)) (KeepBut.of_below hb g none) (.inl rfl));replace HB:=zh (zC (by repeat (with_reducible first|exact HB.out|apply za|apply zb|apply zc|refine zd ?_ (IsS89.ge HI0.out))) hb);replace HI0:=zh (IsS89.below (show IsS89 w0 (w.setCell ⟨g,1,none⟩ (.bool true)) g s0_0 true from by repeat (with_reducible first|exact HI0.out|apply IsS89.alloc|apply IsS89.drewN|apply IsS89.drew|apply IsS89.set_0|apply IsS89.set_1)) hb);(try clear hb);(try clear hb2);(try clear hk);(try clear hi)))
  go_ret
  exact ⟨by first|rfl|(simp [yt,yu] <;> rfl)|(simp [*,yt,yu] <;> rfl),by repeat (with_reducible first|exact HI0.out|apply IsS89.alloc|apply IsS89.drewN|apply IsS89.drew|apply IsS89.set_0|apply IsS89.set_1),by repeat (with_reducible first|exact HB.out|apply za|apply zb|apply zc|refine zd ?_ (IsS89.ge HI0.out)),by repeat (with_reducible first|exact HK.out|apply yl|apply ym|apply yx|apply yn)⟩
 rw [if_neg c3] at H;have c3b0 : decide ((s0_0.size : Int)<a1)=false:=decide_eq_false c3;clear c3
 by_cases c7 : 0≤a1
 ·
  rw [if_pos c7] at H
  have c7b0:=eq_true c7;have c7b1 : decide (0≤a1)=true:=decide_eq_true c7;clear c7
  by_cases c8 : a1≤(s0_0.size : Int)
  ·
   rw [if_pos c8] at H
   have c8b0:=eq_true c8;have c8b1 : decide (a1≤(s0_0.size : Int))=true:=decide_eq_true c8;clear c8;have c9b0:=eq_true (zy (by first|(with_reducible assumption)|assumption) : 0≤a1);have c10b0:=eq_true (zy (by first|(with_reducible assumption)|assumption) : a1≤(s0_0.size : Int));simp only [Option.some.injEq,Prod.mk.injEq] at H;obtain ⟨rfl,rfl,rfl⟩:=H;obtain ⟨HGz11,hgz11⟩:=HI0.out;have hcz11_0:=cellS89_0 HGz11;have hcz11_1:=cellS89_1 HGz11;have hfz11_0:=zA HGz11 0;have hfz11_1:=zA HGz11 1;clear HGz11 hgz11
   go_enter Try.func60,Try.ntmps60
   go_wp2
   go_ret
   exact ⟨by first|rfl|(simp [yt,yu] <;> rfl)|(simp [*,yt,yu] <;> rfl),by repeat (with_reducible first|exact HI0.out|apply IsS89.alloc|apply IsS89.drewN|apply IsS89.drew|apply IsS89.set_0|apply IsS89.set_1),by repeat (with_reducible first|exact HB.out|apply za|apply zb|apply zc|refine zd ?_ (IsS89.ge HI0.out)),by repeat (with_reducible first|exact HK.out|apply yl|apply ym|apply yx|apply yn)⟩
  rw [if_neg c8] at H;exact absurd H (by simp)
 rw [if_neg c7] at H;exact absurd H (by simp)


def Ft.l0 : Nat→Int→List Int→Int→Int→Option (Int)
 | 0,_,_,_,_=>none
 | k+1,x3,x6,x7,x8=>if x8<x7 then (if 0≤x8 then (if x8<(x6.length : Int) then (Ft.l0 k (Go.bits .or .i64 (wrap64 (x3*256)) (wrap64 (rd x6 x8))) x6 x7 (wrap64 (x8+1))) else (none)) else (none)) else (some x3)
def Ft.f (k : Nat) (l0 : List Int) : Option (Int):=Ft.l0 k 0 l0 (l0.length : Int) 0
theorem Ft.mono_l : ∀ k,(∀ y0 y1 y2 y3,LeO (Ft.l0 k y0 y1 y2 y3) (Ft.l0 (k+1) y0 y1 y2 y3))
 | 0=>fun _ _ _ _ r h=>by simp [Ft.l0] at h
 | k+1=>by
  have ih0:=Ft.mono_l k;intro y0 y1 y2 y3;unfold Ft.l0
  repeat' first|(with_reducible first|exact ih0 _ _ _ _|exact zQ _|exact zN _|refine zP ?_ ?_|refine zO ?_ (fun _=>?_))|refine zP ?_ ?_|refine zO ?_ (fun _=>?_)
theorem Ft.mono : ∀ a0 k,LeO (Ft.f k a0) (Ft.f (k+1) a0):=by
 intro a0 k;have ih0:=Ft.mono_l k;unfold Ft.f
 repeat' first|(with_reducible first|exact ih0 _ _ _ _|exact zQ _|exact zN _|refine zP ?_ ?_|refine zO ?_ (fun _=>?_))|refine zP ?_ ?_|refine zO ?_ (fun _=>?_)
set_option maxHeartbeats 8000000 in
set_option maxRecDepth 100000 in
theorem Ft.calls (k : Nat) (A0 : Option Addr) (c0 : Nat) (l0 : List Int) (r : Int) (w : World) (hr0 : Kd.C (Kd.int .u8) w A0 l0.length l0) (hc0 : l0.length≤c0) (h : Ft.f k l0=some r) :
  Calls Try.prog 80 #[.slice A0 l0.length c0] w fun e w' => e = .returned (.int .i64 r)∧Drawn0 w w':=by
 have HR0:=zh hr0;have HC0:=zh hc0;clear hr0 hc0;have H : (Ft.l0 k 0 l0 (l0.length : Int) 0)=some r:=h;clear h;have H':=zh H;clear H
 go_enter Try.func80,Try.ntmps80
 go_wp2
 go_loopg [3,8] k (fun kq v3 v8 w' => ∃ (x3_1 : Int) (x8_1 : Int),v3 = .int .i64 x3_1∧v8 = .int .i64 x8_1∧Aside0 (Ft.l0 kq x3_1 l0 (l0.length : Int) x8_1=some r)∧Aside0 (kq≤k)∧Drawn0 w w')
 case atStart=>exact ⟨(0),(0),(by first|rfl|(simp;done)|(simp [*];done)),(by first|rfl|(simp;done)|(simp [*];done)),H',⟨ye _⟩,by repeat (first|exact yp _|apply yq)⟩
 case round =>
  clear H';obtain ⟨x3_1,x8_1,rfl,rfl,HA,HK1,⟨m1,rfl⟩⟩:=hrel
  cases gk with
  | zero=>exact absurd HA.out (by simp [Ft.l0])
  | succ k1 =>
   have H:=HA.out;clear HA;simp only [Ft.l0] at H
   by_cases c2 : x8_1<(l0.length : Int)
   ·
    rw [if_pos c2] at H
    have c2b0 : decide (x8_1<(l0.length : Int))=true:=decide_eq_true c2;clear c2
    by_cases c3 : 0≤x8_1
    ·
     rw [if_pos c3] at H
     have c3b0 : decide (0≤x8_1)=true:=decide_eq_true c3;clear c3
     by_cases c4 : x8_1<(l0.length : Int)
     ·
      rw [if_pos c4] at H
      have c4b0 : decide (x8_1<(l0.length : Int))=true:=decide_eq_true c4;clear c4;have H':=zh H;clear H;have p226 : 0≤(x8_1 : Int):=zy (by first|(with_reducible assumption)|assumption);have q226 : x8_1<(l0.length : Int):=zy (by first|(with_reducible assumption)|assumption);obtain ⟨ad226,e226,hx226_0⟩:=Kd.at_int HR0.out x8_1 p226 q226
      cases e226
      replace p226:=eq_true p226;replace q226:=eq_true q226
      go_wp2
      go_roundg k1
      case measure=>have:=HK1.out;omega
      case rel=>exact ⟨(Go.bits .or .i64 (wrap64 (x3_1*256)) (wrap64 (rd l0 x8_1))),(wrap64 (x8_1+1)),(by first|rfl|(simp;done)|(simp [*];done)),(by first|rfl|(simp;done)|(simp [*];done)),H',⟨by have:=HK1.out;omega⟩,by repeat (first|exact yp _|apply yq)⟩
     rw [if_neg c4] at H;exact absurd H (by simp)
    rw [if_neg c3] at H;exact absurd H (by simp)
   rw [if_neg c2] at H;have c2b0 : decide (x8_1<(l0.length : Int))=false:=decide_eq_false c2;clear c2;obtain rfl:=zU H
   go_wp2
   go_ret
   exact ⟨by first|rfl|(simp;done)|(simp [*];done),by repeat (first|exact yp _|apply yq)⟩


def Fp.f (k : Nat) (s0_0 : ByteArray) (s0_1 : Bool) (a1 : Int) : Option (Int×ByteArray×Bool):=(F03.f s0_0 s0_1 a1).bind fun bt227=>(if bt227.1.size≤9223372036854775807 then ((Ft.f k (bytesOf bt227.1)).bind fun t233=>(some (t233,bt227.2.1,bt227.2.2))) else (none))
theorem Fp.mono : ∀ a0 a1 a2 k,LeO (Fp.f k a0 a1 a2) (Fp.f (k+1) a0 a1 a2):=by
 intro a0 a1 a2 k;unfold Fp.f
 repeat' first|(with_reducible first|exact Ft.mono _ _|exact zQ _|exact zN _|refine zP ?_ ?_|refine zO ?_ (fun _=>?_))|refine zP ?_ ?_|refine zO ?_ (fun _=>?_)
set_option maxHeartbeats 8000000 in
set_option maxRecDepth 100000 in
theorem Fp.calls (k : Nat) (g : Nat) (s0_0 : ByteArray) (s0_1 : Bool) (a1 : Int) (r1 : Int) (r2 : ByteArray) (r3 : Bool) (w0 w : World) (hI : IsS89 w0 w g s0_0 s0_1) (hB : Below w0.heap.size w0 w) (h : Fp.f k s0_0 s0_1 a1=some (r1,r2,r3)) :
  Calls Try.prog 61 #[.pointer (some ⟨g,0,none⟩),.int .i64 a1] w fun e w' => e = .returned (.int .i64 r1)∧IsS89 w0 w' g r2 r3∧Below w0.heap.size w0 w' ∧ KeepBut w w' g none:=by
 have HI0:=zh hI;have HK:=zh (KeepBut.refl w g none);have HL:=zh hB.size;clear hI;have HW0:=zh hB.size;have HB:=zh hB;clear hB;have H : ((F03.f s0_0 s0_1 a1).bind fun bt227=>(if bt227.1.size≤9223372036854775807 then ((Ft.f k (bytesOf bt227.1)).bind fun t233=>(some (t233,bt227.2.1,bt227.2.2))) else (none)))=some (r1,r2,r3):=h;clear h;replace H:=zT.mp H;obtain ⟨⟨t227,t228,t229⟩,A30,H⟩:=H;replace H : (if t227.size≤9223372036854775807 then ((Ft.f k (bytesOf t227)).bind fun t233=>(some (t233,t228,t229))) else (none))=some (r1,r2,r3):=H;have A3:=zh A30;clear A30
 by_cases c4 : t227.size≤9223372036854775807
 ·
  rw [if_pos c4] at H
  have c4b0:=eq_true c4;have c4b1 : decide (t227.size≤9223372036854775807)=true:=decide_eq_true c4
  try have c4b2 : (9223372036854775807<t227.size)=False:=eq_false (Nat.not_lt.2 c4)
  clear c4;obtain ⟨y230,hy230⟩ : ∃ y_ : List Int,y_=(bytesOf t227):=⟨_,rfl⟩;replace H : ((Ft.f k y230).bind fun t233=>(some (t233,t228,t229)))=some (r1,r2,r3):=by first|(rw [hy230];with_reducible exact H)|(have H2_:=(Option.bind_some _ _).symm.trans H;rw [hy230];with_reducible exact H2_)|(have H2_:=(Option.bind_some _ _).symm.trans H;with_reducible exact H2_)|with_reducible exact H|(rw [hy230];exact H)|exact H
  have Ny230:=zh hy230;clear hy230;replace H:=zT.mp H;obtain ⟨t233,A50,H⟩:=H;replace H : (some (t233,t228,t229))=some (r1,r2,r3):=H;have A5:=zh A50;clear A50;simp only [Option.some.injEq,Prod.mk.injEq] at H;obtain ⟨rfl,rfl,rfl⟩:=H
  go_enter Try.func61,Try.ntmps61
  go_wp2_with (first|((with_reducible refine zJ (f:=60) rfl ?_);refine yj (some 7) rfl rfl Try.func60 (by kernel_rfl) rfl #[.pointer (some ⟨g,0,none⟩),.int .i64 a1] rfl (by (try simp only [zt,zu,zv]);first|done|rfl|(simp only [zw,zx];rfl)|(simp only [yr,ys,zV,zW];rfl)) ?_;(with_reducible refine (F03.calls  g s0_0 s0_1 a1 t227 t228 t229 w0 _ ?side1 ?side2 A3.out).mono ?_);(case side1=>repeat (with_reducible first|exact HI0.out|apply IsS89.alloc|apply IsS89.drewN|apply IsS89.drew|apply IsS89.set_0|apply IsS89.set_1));(case side2=>repeat (with_reducible first|exact HB.out|apply za|apply zb|apply zc|refine zd ?_ (IsS89.ge HI0.out)));rintro e w6 ⟨rfl,hi,hb,hk⟩;refine ⟨_,rfl,?_⟩;replace HK:=zh (KeepBut.trans (by repeat (with_reducible first|exact HK.out|apply yl|apply ym|apply yx|apply yn)) hk (.inl rfl));replace HB:=zh (hb);replace HI0:=zh (hi);(try clear hb);(try clear hb2);(try clear hk);(try clear hi))|((with_reducible refine zK (N:=8) rfl ?_);refine conv_event (base:=w6.heap.size) ?hg (N:=8) ?hd 9 33 5 t227 rfl ?hx Try.underlying9 Try.underlying33 Try.underlying5 (zy (by first|(with_reducible assumption)|assumption)) ?_;(case hd=>rfl);(case hg=>rfl);(case hx=>first|(go_simp;done)|(go_simp;rfl)|rfl);intro v231 w7 ho8 hb;(first|rw [← Ny230.out] at ho8|(simp only [Int.reduceToNat] at ho8;rw [← Ny230.out] at ho8));have HO232:=zh (Kd.V_lower (Kd.V_mono (ok':=fun k_=>k_≠g) ho8 (fun k_ hk_=>(IsS89.fresh (by repeat (with_reducible first|exact HI0.out|apply IsS89.alloc|apply IsS89.drewN|apply IsS89.drew|apply IsS89.set_0|apply IsS89.set_1)) k_ hk_))) (keep_size (w:=w) (g:=g) (row:=none) (by repeat (with_reducible first|exact HK.out|apply yl|apply ym|apply yx|apply yn))));replace HK:=zh (KeepBut.trans (by repeat (with_reducible first|exact HK.out|apply yl|apply ym|apply yx|apply yn)) (KeepBut.of_below hb g none) (.inl rfl));replace HB:=zh (zC (by repeat (with_reducible first|exact HB.out|apply za|apply zb|apply zc|refine zd ?_ (IsS89.ge HI0.out))) hb);replace HI0:=zh (IsS89.below (by repeat (with_reducible first|exact HI0.out|apply IsS89.alloc|apply IsS89.drewN|apply IsS89.drew|apply IsS89.set_0|apply IsS89.set_1)) hb);clear hb ho8;obtain ⟨Ao9,co9,eo9⟩:=Kd.V_slice HO232.out;subst eo9)|((with_reducible refine zJ (f:=80) rfl ?_);refine yj (some 9) rfl rfl Try.func80 (by kernel_rfl) rfl #[.slice Ao9 y230.length co9] rfl (by (try simp only [zt,zu,zv]);first|done|rfl|(simp only [zw,zx];rfl)|(simp only [yr,ys,zV,zW];rfl)) ?_;(with_reducible refine (Ft.calls k  _ _ y230 t233 _ ?side1 ?side2 A5.out).mono ?_);(case side1=>repeat (first|exact (Kd.V_reads' HO232.out).2.2|(with_reducible refine Kd.C_alloc ?_ _)|(with_reducible refine Kd.C_drewN ?_ _)|(with_reducible refine Kd.C_drew ?_)));(case side2=>exact (Kd.V_reads' HO232.out).2.1);rintro e w' ⟨rfl,⟨nd,rfl⟩⟩;refine ⟨_,rfl,?_⟩))
  go_ret
  exact ⟨by first|rfl|(simp [yt,yu] <;> rfl)|(simp [*,yt,yu] <;> rfl),by repeat (with_reducible first|exact HI0.out|apply IsS89.alloc|apply IsS89.drewN|apply IsS89.drew|apply IsS89.set_0|apply IsS89.set_1),by repeat (with_reducible first|exact HB.out|apply za|apply zb|apply zc|refine zd ?_ (IsS89.ge HI0.out)),by repeat (with_reducible first|exact HK.out|apply yl|apply ym|apply yx|apply yn)⟩
 rw [if_neg c4] at H;exact absurd H (by simp)


def Fc.j0 : Nat→Bool→ByteArray→Bool→Int→Int→ByteArray→Option (Int×Int×ByteArray×ByteArray×Bool)
 | 0,_,_,_,_,_,_=>none
 | k+1,x20,x1000,x1001,x239000,x239001,x239002=>if x20=true then ((Fp.f k x1000 x1001 2).bind fun bt245=>((F03.f bt245.2.1 bt245.2.2 bt245.1).bind fun bt248=>(some (x239000,x239001,bt248.1,bt248.2.1,bt248.2.2)))) else (some (x239000,x239001,x239002,x1000,x1001))
def Fc.f (k : Nat) (s0_0 : ByteArray) (s0_1 : Bool) : Option (Int×Int×ByteArray×ByteArray×Bool):=(Fp.f k s0_0 s0_1 1).bind fun bt235=>(if bt235.1=1 then ((Fp.f k bt235.2.1 bt235.2.2 1).bind fun bt239=>(some (bt235.1,bt239.1,(⟨#[]⟩ : ByteArray),bt239.2.1,bt239.2.2))) else (if bt235.1=2 then ((Fp.f k bt235.2.1 bt235.2.2 8).bind fun bt242=>(some (bt235.1,wrap64 (bt242.1 - 4611686018427387904),(⟨#[]⟩ : ByteArray),bt242.2.1,bt242.2.2))) else (if bt235.1=3 then (Fc.j0 k (bt235.1 == 3) bt235.2.1 bt235.2.2 bt235.1 0 (⟨#[]⟩ : ByteArray)) else (if bt235.1=4 then (Fc.j0 k (bt235.1 == 4) bt235.2.1 bt235.2.2 bt235.1 0 (⟨#[]⟩ : ByteArray)) else (Fc.j0 k (bt235.1 == 5) bt235.2.1 bt235.2.2 bt235.1 0 (⟨#[]⟩ : ByteArray))))))
theorem Fc.mono_l : ∀ k,(∀ y0 y1 y2 y3 y4 y5,LeO (Fc.j0 k y0 y1 y2 y3 y4 y5) (Fc.j0 (k+1) y0 y1 y2 y3 y4 y5))
 | 0=>fun _ _ _ _ _ _ r h=>by simp [Fc.j0] at h
 | k+1=>by
  have ih0:=Fc.mono_l k;intro y0 y1 y2 y3 y4 y5;unfold Fc.j0
  repeat' first|(with_reducible first|exact ih0 _ _ _ _ _ _|exact Fp.mono _ _ _ _|exact zQ _|exact zN _|refine zP ?_ ?_|refine zO ?_ (fun _=>?_))|refine zP ?_ ?_|refine zO ?_ (fun _=>?_)
theorem Fc.mono : ∀ a0 a1 k,LeO (Fc.f k a0 a1) (Fc.f (k+1) a0 a1):=by
 intro a0 a1 k;have ih0:=Fc.mono_l k;unfold Fc.f
 repeat' first|(with_reducible first|exact ih0 _ _ _ _ _ _|exact Fp.mono _ _ _ _|exact zQ _|exact zN _|refine zP ?_ ?_|refine zO ?_ (fun _=>?_))|refine zP ?_ ?_|refine zO ?_ (fun _=>?_)
set_option maxHeartbeats 8000000 in
set_option maxRecDepth 100000 in
theorem Fc.calls (k : Nat) (g : Nat) (s0_0 : ByteArray) (s0_1 : Bool) (r1 : Int) (r2 : Int) (r3 : ByteArray) (r4 : ByteArray) (r5 : Bool) (w0 w : World) (hI : IsS89 w0 w g s0_0 s0_1) (hB : Below w0.heap.size w0 w) (h : Fc.f k s0_0 s0_1=some (r1,r2,r3,r4,r5)) :
  Calls Try.prog 59 #[.pointer (some ⟨g,0,none⟩)] w fun e w' => e = .returned (.agg #[.int .i64 r1,.int .i64 r2,.string r3])∧IsS89 w0 w' g r4 r5∧Below w0.heap.size w0 w' ∧ KeepBut w w' g none:=by
 have hu25:=Try.underlying25;have HI0:=zh hI;have HK:=zh (KeepBut.refl w g none);have HL:=zh hB.size;clear hI;have HW0:=zh hB.size;have HB:=zh hB;clear hB;have H : ((Fp.f k s0_0 s0_1 1).bind fun bt235=>(if bt235.1=1 then ((Fp.f k bt235.2.1 bt235.2.2 1).bind fun bt239=>(some (bt235.1,bt239.1,(⟨#[]⟩ : ByteArray),bt239.2.1,bt239.2.2))) else (if bt235.1=2 then ((Fp.f k bt235.2.1 bt235.2.2 8).bind fun bt242=>(some (bt235.1,wrap64 (bt242.1 - 4611686018427387904),(⟨#[]⟩ : ByteArray),bt242.2.1,bt242.2.2))) else (if bt235.1=3 then (Fc.j0 k (bt235.1 == 3) bt235.2.1 bt235.2.2 bt235.1 0 (⟨#[]⟩ : ByteArray)) else (if bt235.1=4 then (Fc.j0 k (bt235.1 == 4) bt235.2.1 bt235.2.2 bt235.1 0 (⟨#[]⟩ : ByteArray)) else (Fc.j0 k (bt235.1 == 5) bt235.2.1 bt235.2.2 bt235.1 0 (⟨#[]⟩ : ByteArray)))))))=some (r1,r2,r3,r4,r5):=h;clear h;replace H:=zT.mp H;obtain ⟨⟨t235,t236,t237⟩,A20,H⟩:=H;replace H : (if t235=1 then ((Fp.f k t236 t237 1).bind fun bt239=>(some (t235,bt239.1,(⟨#[]⟩ : ByteArray),bt239.2.1,bt239.2.2))) else (if t235=2 then ((Fp.f k t236 t237 8).bind fun bt242=>(some (t235,wrap64 (bt242.1 - 4611686018427387904),(⟨#[]⟩ : ByteArray),bt242.2.1,bt242.2.2))) else (if t235=3 then (Fc.j0 k (t235 == 3) t236 t237 t235 0 (⟨#[]⟩ : ByteArray)) else (if t235=4 then (Fc.j0 k (t235 == 4) t236 t237 t235 0 (⟨#[]⟩ : ByteArray)) else (Fc.j0 k (t235 == 5) t236 t237 t235 0 (⟨#[]⟩ : ByteArray))))))=some (r1,r2,r3,r4,r5):=H;have A2:=zh A20;clear A20
 by_cases c3 : t235=1
 ·
  rw [if_pos c3] at H
  have c3b0 : (t235 == 1)=true:=ya.mpr c3;have c3b1 : (t235 != 1)=false:=zX.mpr c3;clear c3;replace H:=zT.mp H;obtain ⟨⟨t239,t240,t241⟩,A40,H⟩:=H;replace H : (some (t235,t239,(⟨#[]⟩ : ByteArray),t240,t241))=some (r1,r2,r3,r4,r5):=H;have A4:=zh A40;clear A40;simp only [Option.some.injEq,Prod.mk.injEq] at H;obtain ⟨rfl,rfl,rfl,rfl,rfl⟩:=H
  go_enter Try.func59,Try.ntmps59
  go_wp2_with (first|((with_reducible refine zK (N:=2) rfl ?_);refine zI ?hg (N:=2) ?hd (cs:=#[.int .i64 0,.int .i64 0,.string (⟨#[]⟩ : ByteArray)]) (t:=25) ?hr ?_;(case hd=>rfl);(case hg=>rfl);(case hr=>go_simp <;> rfl);intro gb234 hg w5 hbox hb;replace HB:=zh (zC (by repeat (with_reducible first|exact HB.out|apply za|apply zb|apply zc|refine zd ?_ (IsS89.ge HI0.out))) hb);have BK234:=zh (hbox);have GW234:=zh ((by rw [hg];exact (keep_size (w:=w) (g:=g) (row:=none) (by repeat (with_reducible first|exact HK.out|apply yl|apply ym|apply yx|apply yn))) : w.heap.size≤gb234));have GE234:=zh ((Nat.le_trans HW0.out (by rw [hg];exact (keep_size (w:=w) (g:=g) (row:=none) (by repeat (with_reducible first|exact HK.out|apply yl|apply ym|apply yx|apply yn))) : w.heap.size≤gb234) : w0.heap.size≤gb234));replace HK:=zh (KeepBut.trans (by repeat (with_reducible first|exact HK.out|apply yl|apply ym|apply yx|apply yn)) (KeepBut.of_below hb g none) (.inl rfl));have NB0_234:=zh ((by rw [hg];exact yc (IsS89.lt (show IsS89 w0 _ g s0_0 s0_1 from by repeat (with_reducible first|exact HI0.out|apply IsS89.alloc|apply IsS89.drewN|apply IsS89.drew|apply IsS89.set_0|apply IsS89.set_1))) : g≠gb234));have NB234_0:=zh ((by rw [hg];exact yd (IsS89.lt (show IsS89 w0 _ g s0_0 s0_1 from by repeat (with_reducible first|exact HI0.out|apply IsS89.alloc|apply IsS89.drewN|apply IsS89.drew|apply IsS89.set_0|apply IsS89.set_1))) : gb234≠g));replace HI0:=zh (IsS89.below (by repeat (with_reducible first|exact HI0.out|apply IsS89.alloc|apply IsS89.drewN|apply IsS89.drew|apply IsS89.set_0|apply IsS89.set_1)) hb);clear hb hbox hg)|((with_reducible refine zJ (f:=61) rfl ?_);refine yj (some 5) rfl rfl Try.func61 (by kernel_rfl) rfl #[.pointer (some ⟨g,0,none⟩),.int .i64 1] rfl (by (try simp only [zt,zu,zv]);first|done|rfl|(simp only [zw,zx];rfl)|(simp only [yr,ys,zV,zW];rfl)) ?_;(with_reducible refine (Fp.calls k  g s0_0 s0_1 1 t235 t236 t237 w0 _ ?side1 ?side2 A2.out).mono ?_);(case side1=>repeat (with_reducible first|exact HI0.out|apply IsS89.alloc|apply IsS89.drewN|apply IsS89.drew|apply IsS89.set_0|apply IsS89.set_1|refine IsS89.far ?_ NB0_234.out _));(case side2=>repeat (with_reducible first|exact HB.out|apply za|apply zb|apply zc|refine zd ?_ (IsS89.ge HI0.out)|refine zd ?_ GE234.out));rintro e w6 ⟨rfl,hi,hb,hk⟩;refine ⟨_,rfl,?_⟩;replace BK234:=zh (KeepBut.blk hk (g':=gb234) (o:=.cells #[.int .i64 0,.int .i64 0,.string (⟨#[]⟩ : ByteArray)] 25 (0,0)) (by (with_reducible repeat first|apply ze|apply zf|apply zg);exact BK234.out) NB234_0.out (by simp));replace HK:=zh (KeepBut.trans (by repeat (with_reducible first|exact HK.out|apply yl|apply ym|apply yx|apply yn|refine keep_far ?_ GW234.out _)) hk (.inl rfl));replace HB:=zh (hb);replace HI0:=zh (hi);(try clear hb);(try clear hb2);(try clear hk);(try clear hi))|((with_reducible refine zK (N:=3) rfl ?_);refine zI ?hg (N:=3) ?hd (cs:=#[.int .i64 0,.int .i64 0,.string (⟨#[]⟩ : ByteArray)]) (t:=25) ?hr ?_;(case hd=>rfl);(case hg=>rfl);(case hr=>go_simp <;> rfl);intro gb238 hg w7 hbox hb;replace HB:=zh (zC (by repeat (with_reducible first|exact HB.out|apply za|apply zb|apply zc|refine zd ?_ (IsS89.ge HI0.out)|refine zd ?_ GE234.out)) hb);have BK238:=zh (hbox);have GW238:=zh ((by rw [hg];exact (keep_size (w:=w) (g:=g) (row:=none) (by repeat (with_reducible first|exact HK.out|apply yl|apply ym|apply yx|apply yn|refine keep_far ?_ GW234.out _))) : w.heap.size≤gb238));have GE238:=zh ((Nat.le_trans HW0.out (by rw [hg];exact (keep_size (w:=w) (g:=g) (row:=none) (by repeat (with_reducible first|exact HK.out|apply yl|apply ym|apply yx|apply yn|refine keep_far ?_ GW234.out _))) : w.heap.size≤gb238) : w0.heap.size≤gb238));replace HK:=zh (KeepBut.trans (by repeat (with_reducible first|exact HK.out|apply yl|apply ym|apply yx|apply yn|refine keep_far ?_ GW234.out _)) (KeepBut.of_below hb g none) (.inl rfl));have NB234_238:=zh ((by rw [hg];exact yc (yi (g:=gb234) (o:=.cells #[.int .i64 0,.int .i64 0,.string (⟨#[]⟩ : ByteArray)] 25 (0,0)) (by (with_reducible repeat first|apply ze|apply zf|apply zg);exact BK234.out)) : gb234≠gb238));have NB238_234:=zh NB234_238.out.symm;replace BK234:=zh (cD BK234.out (by (with_reducible repeat first|apply ze|apply zf|apply zg);exact BK234.out) hb);have NB0_238:=zh ((by rw [hg];exact yc (IsS89.lt (show IsS89 w0 _ g t236 t237 from by repeat (with_reducible first|exact HI0.out|apply IsS89.alloc|apply IsS89.drewN|apply IsS89.drew|apply IsS89.set_0|apply IsS89.set_1|refine IsS89.far ?_ NB0_234.out _))) : g≠gb238));have NB238_0:=zh ((by rw [hg];exact yd (IsS89.lt (show IsS89 w0 _ g t236 t237 from by repeat (with_reducible first|exact HI0.out|apply IsS89.alloc|apply IsS89.drewN|apply IsS89.drew|apply IsS89.set_0|apply IsS89.set_1|refine IsS89.far ?_ NB0_234.out _))) : gb238≠g));replace HI0:=zh (IsS89.below (by repeat (with_reducible first|exact HI0.out|apply IsS89.alloc|apply IsS89.drewN|apply IsS89.drew|apply IsS89.set_0|apply IsS89.set_1|refine IsS89.far ?_ NB0_234.out _)) hb);clear hb hbox hg;have hnb8:=NB238_234.out;have hnc8:=NB234_238.out;have hnb9:=NB238_0.out;have hnc9:=NB0_238.out;obtain ⟨hcz10_0,hcz10_1,hcz10_2,hfz10_0,hfz10_1,hfz10_2⟩:=cB3 BK238.out)|((with_reducible refine zJ (f:=61) rfl ?_);refine yj (some 12) rfl rfl Try.func61 (by kernel_rfl) rfl #[.pointer (some ⟨g,0,none⟩),.int .i64 1] rfl (by (try simp only [zt,zu,zv]);first|done|rfl|(simp only [zw,zx];rfl)|(simp only [yr,ys,zV,zW];rfl)) ?_;(with_reducible refine (Fp.calls k  g t236 t237 1 t239 t240 t241 w0 _ ?side1 ?side2 A4.out).mono ?_);(case side1=>repeat (with_reducible first|exact HI0.out|apply IsS89.alloc|apply IsS89.drewN|apply IsS89.drew|apply IsS89.set_0|apply IsS89.set_1|refine IsS89.far ?_ NB0_234.out _|refine IsS89.far ?_ NB0_238.out _));(case side2=>repeat (with_reducible first|exact HB.out|apply za|apply zb|apply zc|refine zd ?_ (IsS89.ge HI0.out)|refine zd ?_ GE234.out|refine zd ?_ GE238.out));rintro e w11 ⟨rfl,hi,hb,hk⟩;refine ⟨_,rfl,?_⟩;replace BK234:=zh (KeepBut.blk hk (g':=gb234) (o:=.cells #[.int .i64 0,.int .i64 0,.string (⟨#[]⟩ : ByteArray)] 25 (0,0)) (by (with_reducible repeat first|apply ze|apply zf|apply zg);refine cS3 ?_ NB234_238.out;(with_reducible repeat first|apply ze|apply zf|apply zg);exact BK234.out) NB234_0.out (by simp));replace BK238:=zh (KeepBut.blk hk (g':=gb238) (o:=.cells #[.int .i64 t235,.int .i64 0,.string (⟨#[]⟩ : ByteArray)] 25 (0,0)) (by (with_reducible repeat first|apply ze|apply zf|apply zg);refine zL (cs:=#[.int .i64 t235,.int .i64 0,.string (⟨#[]⟩ : ByteArray)]) ?_ 2 _ rfl;(with_reducible repeat first|apply ze|apply zf|apply zg);refine zL (cs:=#[.int .i64 t235,.int .i64 0,.string (⟨#[]⟩ : ByteArray)]) ?_ 1 _ rfl;(with_reducible repeat first|apply ze|apply zf|apply zg);refine zL (cs:=#[.int .i64 0,.int .i64 0,.string (⟨#[]⟩ : ByteArray)]) ?_ 0 _ rfl;(with_reducible repeat first|apply ze|apply zf|apply zg);exact BK238.out) NB238_0.out (by simp));replace HK:=zh (KeepBut.trans (by repeat (with_reducible first|exact HK.out|apply yl|apply ym|apply yx|apply yn|refine keep_far ?_ GW234.out _|refine keep_far ?_ GW238.out _)) hk (.inl rfl));replace HB:=zh (hb);replace HI0:=zh (hi);(try clear hb);(try clear hb2);(try clear hk);(try clear hi);obtain ⟨hcz12_0,hcz12_1,hcz12_2,hfz12_0,hfz12_1,hfz12_2⟩:=cB3 BK238.out;have hnb13:=NB234_0.out;have hnc13:=NB0_234.out;obtain ⟨hcz14_0,hcz14_1,hcz14_2,hfz14_0,hfz14_1,hfz14_2⟩:=cB3 BK234.out))
  refine bodyPost_ret (results_cell_row rfl _ _ gb234 25 #[.int .i64 t235,.int .i64 t239,.string (⟨#[]⟩ : ByteArray)] (0,0) _ rfl (by (with_reducible repeat first|apply ze|apply zf|apply zg);refine zL (cs:=#[.int .i64 t235,.int .i64 t239,.string (⟨#[]⟩ : ByteArray)]) ?_ 2 _ rfl;(with_reducible repeat first|apply ze|apply zf|apply zg);refine zL (cs:=#[.int .i64 t235,.int .i64 0,.string (⟨#[]⟩ : ByteArray)]) ?_ 1 _ rfl;(with_reducible repeat first|apply ze|apply zf|apply zg);refine zL (cs:=#[.int .i64 0,.int .i64 0,.string (⟨#[]⟩ : ByteArray)]) ?_ 0 _ rfl;(with_reducible repeat first|apply ze|apply zf|apply zg);refine zS ?_ NB234_238.out _;(with_reducible repeat first|apply ze|apply zf|apply zg);exact BK234.out) Try.underlying25 rfl (by kernel_rfl)) rfl ?_;exact ⟨by first|rfl|(simp [yt,yu] <;> rfl)|(simp [*,yt,yu] <;> rfl),by repeat (with_reducible first|exact HI0.out|apply IsS89.alloc|apply IsS89.drewN|apply IsS89.drew|apply IsS89.set_0|apply IsS89.set_1|refine IsS89.far ?_ NB0_234.out _|refine IsS89.far ?_ NB0_238.out _),by repeat (with_reducible first|exact HB.out|apply za|apply zb|apply zc|refine zd ?_ (IsS89.ge HI0.out)|refine zd ?_ GE234.out|refine zd ?_ GE238.out),by repeat (with_reducible first|exact HK.out|apply yl|apply ym|apply yx|apply yn|refine keep_far ?_ GW234.out _|refine keep_far ?_ GW238.out _)⟩
 rw [if_neg c3] at H;have c3b0 : (t235 == 1)=false:=zY.mpr c3;have c3b1 : (t235 != 1)=true:=zZ.mpr c3
 by_cases c15 : t235=2
 ·
  rw [if_pos c15] at H
  have c15b0 : (t235 == 2)=true:=ya.mpr c15;have c15b1 : (t235 != 2)=false:=zX.mpr c15;clear c15;replace H:=zT.mp H;obtain ⟨⟨t242,t243,t244⟩,A160,H⟩:=H;replace H : (some (t235,wrap64 (t242 - 4611686018427387904),(⟨#[]⟩ : ByteArray),t243,t244))=some (r1,r2,r3,r4,r5):=H;have A16:=zh A160;clear A160;simp only [Option.some.injEq,Prod.mk.injEq] at H;obtain ⟨rfl,rfl,rfl,rfl,rfl⟩:=H
  go_enter Try.func59,Try.ntmps59
  go_wp2_with (first|((with_reducible refine zK (N:=2) rfl ?_);refine zI ?hg (N:=2) ?hd (cs:=#[.int .i64 0,.int .i64 0,.string (⟨#[]⟩ : ByteArray)]) (t:=25) ?hr ?_;(case hd=>rfl);(case hg=>rfl);(case hr=>go_simp <;> rfl);intro gb234 hg w17 hbox hb;replace HB:=zh (zC (by repeat (with_reducible first|exact HB.out|apply za|apply zb|apply zc|refine zd ?_ (IsS89.ge HI0.out))) hb);have BK234:=zh (hbox);have GW234:=zh ((by rw [hg];exact (keep_size (w:=w) (g:=g) (row:=none) (by repeat (with_reducible first|exact HK.out|apply yl|apply ym|apply yx|apply yn))) : w.heap.size≤gb234));have GE234:=zh ((Nat.le_trans HW0.out (by rw [hg];exact (keep_size (w:=w) (g:=g) (row:=none) (by repeat (with_reducible first|exact HK.out|apply yl|apply ym|apply yx|apply yn))) : w.heap.size≤gb234) : w0.heap.size≤gb234));replace HK:=zh (KeepBut.trans (by repeat (with_reducible first|exact HK.out|apply yl|apply ym|apply yx|apply yn)) (KeepBut.of_below hb g none) (.inl rfl));have NB0_234:=zh ((by rw [hg];exact yc (IsS89.lt (show IsS89 w0 _ g s0_0 s0_1 from by repeat (with_reducible first|exact HI0.out|apply IsS89.alloc|apply IsS89.drewN|apply IsS89.drew|apply IsS89.set_0|apply IsS89.set_1))) : g≠gb234));have NB234_0:=zh ((by rw [hg];exact yd (IsS89.lt (show IsS89 w0 _ g s0_0 s0_1 from by repeat (with_reducible first|exact HI0.out|apply IsS89.alloc|apply IsS89.drewN|apply IsS89.drew|apply IsS89.set_0|apply IsS89.set_1))) : gb234≠g));replace HI0:=zh (IsS89.below (by repeat (with_reducible first|exact HI0.out|apply IsS89.alloc|apply IsS89.drewN|apply IsS89.drew|apply IsS89.set_0|apply IsS89.set_1)) hb);clear hb hbox hg)|((with_reducible refine zJ (f:=61) rfl ?_);refine yj (some 5) rfl rfl Try.func61 (by kernel_rfl) rfl #[.pointer (some ⟨g,0,none⟩),.int .i64 1] rfl (by (try simp only [zt,zu,zv]);first|done|rfl|(simp only [zw,zx];rfl)|(simp only [yr,ys,zV,zW];rfl)) ?_;(with_reducible refine (Fp.calls k  g s0_0 s0_1 1 t235 t236 t237 w0 _ ?side1 ?side2 A2.out).mono ?_);(case side1=>repeat (with_reducible first|exact HI0.out|apply IsS89.alloc|apply IsS89.drewN|apply IsS89.drew|apply IsS89.set_0|apply IsS89.set_1|refine IsS89.far ?_ NB0_234.out _));(case side2=>repeat (with_reducible first|exact HB.out|apply za|apply zb|apply zc|refine zd ?_ (IsS89.ge HI0.out)|refine zd ?_ GE234.out));rintro e w18 ⟨rfl,hi,hb,hk⟩;refine ⟨_,rfl,?_⟩;replace BK234:=zh (KeepBut.blk hk (g':=gb234) (o:=.cells #[.int .i64 0,.int .i64 0,.string (⟨#[]⟩ : ByteArray)] 25 (0,0)) (by (with_reducible repeat first|apply ze|apply zf|apply zg);exact BK234.out) NB234_0.out (by simp));replace HK:=zh (KeepBut.trans (by repeat (with_reducible first|exact HK.out|apply yl|apply ym|apply yx|apply yn|refine keep_far ?_ GW234.out _)) hk (.inl rfl));replace HB:=zh (hb);replace HI0:=zh (hi);(try clear hb);(try clear hb2);(try clear hk);(try clear hi))|((with_reducible refine zK (N:=3) rfl ?_);refine zI ?hg (N:=3) ?hd (cs:=#[.int .i64 0,.int .i64 0,.string (⟨#[]⟩ : ByteArray)]) (t:=25) ?hr ?_;(case hd=>rfl);(case hg=>rfl);(case hr=>go_simp <;> rfl);intro gb238 hg w19 hbox hb;replace HB:=zh (zC (by repeat (with_reducible first|exact HB.out|apply za|apply zb|apply zc|refine zd ?_ (IsS89.ge HI0.out)|refine zd ?_ GE234.out)) hb);have BK238:=zh (hbox);have GW238:=zh ((by rw [hg];exact (keep_size (w:=w) (g:=g) (row:=none) (by repeat (with_reducible first|exact HK.out|apply yl|apply ym|apply yx|apply yn|refine keep_far ?_ GW234.out _))) : w.heap.size≤gb238));have GE238:=zh ((Nat.le_trans HW0.out (by rw [hg];exact (keep_size (w:=w) (g:=g) (row:=none) (by repeat (with_reducible first|exact HK.out|apply yl|apply ym|apply yx|apply yn|refine keep_far ?_ GW234.out _))) : w.heap.size≤gb238) : w0.heap.size≤gb238));replace HK:=zh (KeepBut.trans (by repeat (with_reducible first|exact HK.out|apply yl|apply ym|apply yx|apply yn|refine keep_far ?_ GW234.out _)) (KeepBut.of_below hb g none) (.inl rfl));have NB234_238:=zh ((by rw [hg];exact yc (yi (g:=gb234) (o:=.cells #[.int .i64 0,.int .i64 0,.string (⟨#[]⟩ : ByteArray)] 25 (0,0)) (by (with_reducible repeat first|apply ze|apply zf|apply zg);exact BK234.out)) : gb234≠gb238));have NB238_234:=zh NB234_238.out.symm;replace BK234:=zh (cD BK234.out (by (with_reducible repeat first|apply ze|apply zf|apply zg);exact BK234.out) hb);have NB0_238:=zh ((by rw [hg];exact yc (IsS89.lt (show IsS89 w0 _ g t236 t237 from by repeat (with_reducible first|exact HI0.out|apply IsS89.alloc|apply IsS89.drewN|apply IsS89.drew|apply IsS89.set_0|apply IsS89.set_1|refine IsS89.far ?_ NB0_234.out _))) : g≠gb238));have NB238_0:=zh ((by rw [hg];exact yd (IsS89.lt (show IsS89 w0 _ g t236 t237 from by repeat (with_reducible first|exact HI0.out|apply IsS89.alloc|apply IsS89.drewN|apply IsS89.drew|apply IsS89.set_0|apply IsS89.set_1|refine IsS89.far ?_ NB0_234.out _))) : gb238≠g));replace HI0:=zh (IsS89.below (by repeat (with_reducible first|exact HI0.out|apply IsS89.alloc|apply IsS89.drewN|apply IsS89.drew|apply IsS89.set_0|apply IsS89.set_1|refine IsS89.far ?_ NB0_234.out _)) hb);clear hb hbox hg;have hnb20:=NB238_234.out;have hnc20:=NB234_238.out;have hnb21:=NB238_0.out;have hnc21:=NB0_238.out;obtain ⟨hcz22_0,hcz22_1,hcz22_2,hfz22_0,hfz22_1,hfz22_2⟩:=cB3 BK238.out)|((with_reducible refine zJ (f:=61) rfl ?_);refine yj (some 17) rfl rfl Try.func61 (by kernel_rfl) rfl #[.pointer (some ⟨g,0,none⟩),.int .i64 8] rfl (by (try simp only [zt,zu,zv]);first|done|rfl|(simp only [zw,zx];rfl)|(simp only [yr,ys,zV,zW];rfl)) ?_;(with_reducible refine (Fp.calls k  g t236 t237 8 t242 t243 t244 w0 _ ?side1 ?side2 A16.out).mono ?_);(case side1=>repeat (with_reducible first|exact HI0.out|apply IsS89.alloc|apply IsS89.drewN|apply IsS89.drew|apply IsS89.set_0|apply IsS89.set_1|refine IsS89.far ?_ NB0_234.out _|refine IsS89.far ?_ NB0_238.out _));(case side2=>repeat (with_reducible first|exact HB.out|apply za|apply zb|apply zc|refine zd ?_ (IsS89.ge HI0.out)|refine zd ?_ GE234.out|refine zd ?_ GE238.out));rintro e w23 ⟨rfl,hi,hb,hk⟩;refine ⟨_,rfl,?_⟩;replace BK234:=zh (KeepBut.blk hk (g':=gb234) (o:=.cells #[.int .i64 0,.int .i64 0,.string (⟨#[]⟩ : ByteArray)] 25 (0,0)) (by (with_reducible repeat first|apply ze|apply zf|apply zg);refine cS3 ?_ NB234_238.out;(with_reducible repeat first|apply ze|apply zf|apply zg);exact BK234.out) NB234_0.out (by simp));replace BK238:=zh (KeepBut.blk hk (g':=gb238) (o:=.cells #[.int .i64 t235,.int .i64 0,.string (⟨#[]⟩ : ByteArray)] 25 (0,0)) (by (with_reducible repeat first|apply ze|apply zf|apply zg);refine zL (cs:=#[.int .i64 t235,.int .i64 0,.string (⟨#[]⟩ : ByteArray)]) ?_ 2 _ rfl;(with_reducible repeat first|apply ze|apply zf|apply zg);refine zL (cs:=#[.int .i64 t235,.int .i64 0,.string (⟨#[]⟩ : ByteArray)]) ?_ 1 _ rfl;(with_reducible repeat first|apply ze|apply zf|apply zg);refine zL (cs:=#[.int .i64 0,.int .i64 0,.string (⟨#[]⟩ : ByteArray)]) ?_ 0 _ rfl;(with_reducible repeat first|apply ze|apply zf|apply zg);exact BK238.out) NB238_0.out (by simp));replace HK:=zh (KeepBut.trans (by repeat (with_reducible first|exact HK.out|apply yl|apply ym|apply yx|apply yn|refine keep_far ?_ GW234.out _|refine keep_far ?_ GW238.out _)) hk (.inl rfl));replace HB:=zh (hb);replace HI0:=zh (hi);(try clear hb);(try clear hb2);(try clear hk);(try clear hi);obtain ⟨hcz24_0,hcz24_1,hcz24_2,hfz24_0,hfz24_1,hfz24_2⟩:=cB3 BK238.out;have hnb25:=NB234_0.out;have hnc25:=NB0_234.out;obtain ⟨hcz26_0,hcz26_1,hcz26_2,hfz26_0,hfz26_1,hfz26_2⟩:=cB3 BK234.out))
  refine bodyPost_ret (results_cell_row rfl _ _ gb234 25 #[.int .i64 t235,.int .i64 (wrap64 (t242 - 4611686018427387904)),.string (⟨#[]⟩ : ByteArray)] (0,0) _ rfl (by (with_reducible repeat first|apply ze|apply zf|apply zg);refine zL (cs:=#[.int .i64 t235,.int .i64 (wrap64 (t242 - 4611686018427387904)),.string (⟨#[]⟩ : ByteArray)]) ?_ 2 _ rfl;(with_reducible repeat first|apply ze|apply zf|apply zg);refine zL (cs:=#[.int .i64 t235,.int .i64 0,.string (⟨#[]⟩ : ByteArray)]) ?_ 1 _ rfl;(with_reducible repeat first|apply ze|apply zf|apply zg);refine zL (cs:=#[.int .i64 0,.int .i64 0,.string (⟨#[]⟩ : ByteArray)]) ?_ 0 _ rfl;(with_reducible repeat first|apply ze|apply zf|apply zg);refine zS ?_ NB234_238.out _;(with_reducible repeat first|apply ze|apply zf|apply zg);exact BK234.out) Try.underlying25 rfl (by kernel_rfl)) rfl ?_;exact ⟨by first|rfl|(simp [yt,yu] <;> rfl)|(simp [*,yt,yu] <;> rfl),by repeat (with_reducible first|exact HI0.out|apply IsS89.alloc|apply IsS89.drewN|apply IsS89.drew|apply IsS89.set_0|apply IsS89.set_1|refine IsS89.far ?_ NB0_234.out _|refine IsS89.far ?_ NB0_238.out _),by repeat (with_reducible first|exact HB.out|apply za|apply zb|apply zc|refine zd ?_ (IsS89.ge HI0.out)|refine zd ?_ GE234.out|refine zd ?_ GE238.out),by repeat (with_reducible first|exact HK.out|apply yl|apply ym|apply yx|apply yn|refine keep_far ?_ GW234.out _|refine keep_far ?_ GW238.out _)⟩
 rw [if_neg c15] at H;have c15b0 : (t235 == 2)=false:=zY.mpr c15;have c15b1 : (t235 != 2)=true:=zZ.mpr c15;have HC27:=zh H;clear H
 go_enter Try.func59,Try.ntmps59
 go_upto_if 20 with (first|((with_reducible refine zK (N:=2) rfl ?_);refine zI ?hg (N:=2) ?hd (cs:=#[.int .i64 0,.int .i64 0,.string (⟨#[]⟩ : ByteArray)]) (t:=25) ?hr ?_;(case hd=>rfl);(case hg=>rfl);(case hr=>go_simp <;> rfl);intro gb234 hg w28 hbox hb;replace HB:=zh (zC (by repeat (with_reducible first|exact HB.out|apply za|apply zb|apply zc|refine zd ?_ (IsS89.ge HI0.out))) hb);have BK234:=zh (hbox);have GW234:=zh ((by rw [hg];exact (keep_size (w:=w) (g:=g) (row:=none) (by repeat (with_reducible first|exact HK.out|apply yl|apply ym|apply yx|apply yn))) : w.heap.size≤gb234));have GE234:=zh ((Nat.le_trans HW0.out (by rw [hg];exact (keep_size (w:=w) (g:=g) (row:=none) (by repeat (with_reducible first|exact HK.out|apply yl|apply ym|apply yx|apply yn))) : w.heap.size≤gb234) : w0.heap.size≤gb234));replace HK:=zh (KeepBut.trans (by repeat (with_reducible first|exact HK.out|apply yl|apply ym|apply yx|apply yn)) (KeepBut.of_below hb g none) (.inl rfl));have NB0_234:=zh ((by rw [hg];exact yc (IsS89.lt (show IsS89 w0 _ g s0_0 s0_1 from by repeat (with_reducible first|exact HI0.out|apply IsS89.alloc|apply IsS89.drewN|apply IsS89.drew|apply IsS89.set_0|apply IsS89.set_1))) : g≠gb234));have NB234_0:=zh ((by rw [hg];exact yd (IsS89.lt (show IsS89 w0 _ g s0_0 s0_1 from by repeat (with_reducible first|exact HI0.out|apply IsS89.alloc|apply IsS89.drewN|apply IsS89.drew|apply IsS89.set_0|apply IsS89.set_1))) : gb234≠g));replace HI0:=zh (IsS89.below (by repeat (with_reducible first|exact HI0.out|apply IsS89.alloc|apply IsS89.drewN|apply IsS89.drew|apply IsS89.set_0|apply IsS89.set_1)) hb);clear hb hbox hg)|((with_reducible refine zJ (f:=61) rfl ?_);refine yj (some 5) rfl rfl Try.func61 (by kernel_rfl) rfl #[.pointer (some ⟨g,0,none⟩),.int .i64 1] rfl (by (try simp only [zt,zu,zv]);first|done|rfl|(simp only [zw,zx];rfl)|(simp only [yr,ys,zV,zW];rfl)) ?_;(with_reducible refine (Fp.calls k  g s0_0 s0_1 1 t235 t236 t237 w0 _ ?side1 ?side2 A2.out).mono ?_);(case side1=>repeat (with_reducible first|exact HI0.out|apply IsS89.alloc|apply IsS89.drewN|apply IsS89.drew|apply IsS89.set_0|apply IsS89.set_1|refine IsS89.far ?_ NB0_234.out _));(case side2=>repeat (with_reducible first|exact HB.out|apply za|apply zb|apply zc|refine zd ?_ (IsS89.ge HI0.out)|refine zd ?_ GE234.out));rintro e w29 ⟨rfl,hi,hb,hk⟩;refine ⟨_,rfl,?_⟩;replace BK234:=zh (KeepBut.blk hk (g':=gb234) (o:=.cells #[.int .i64 0,.int .i64 0,.string (⟨#[]⟩ : ByteArray)] 25 (0,0)) (by (with_reducible repeat first|apply ze|apply zf|apply zg);exact BK234.out) NB234_0.out (by simp));replace HK:=zh (KeepBut.trans (by repeat (with_reducible first|exact HK.out|apply yl|apply ym|apply yx|apply yn|refine keep_far ?_ GW234.out _)) hk (.inl rfl));replace HB:=zh (hb);replace HI0:=zh (hi);(try clear hb);(try clear hb2);(try clear hk);(try clear hi))|((with_reducible refine zK (N:=3) rfl ?_);refine zI ?hg (N:=3) ?hd (cs:=#[.int .i64 0,.int .i64 0,.string (⟨#[]⟩ : ByteArray)]) (t:=25) ?hr ?_;(case hd=>rfl);(case hg=>rfl);(case hr=>go_simp <;> rfl);intro gb238 hg w30 hbox hb;replace HB:=zh (zC (by repeat (with_reducible first|exact HB.out|apply za|apply zb|apply zc|refine zd ?_ (IsS89.ge HI0.out)|refine zd ?_ GE234.out)) hb);have BK238:=zh (hbox);have GW238:=zh ((by rw [hg];exact (keep_size (w:=w) (g:=g) (row:=none) (by repeat (with_reducible first|exact HK.out|apply yl|apply ym|apply yx|apply yn|refine keep_far ?_ GW234.out _))) : w.heap.size≤gb238));have GE238:=zh ((Nat.le_trans HW0.out (by rw [hg];exact (keep_size (w:=w) (g:=g) (row:=none) (by repeat (with_reducible first|exact HK.out|apply yl|apply ym|apply yx|apply yn|refine keep_far ?_ GW234.out _))) : w.heap.size≤gb238) : w0.heap.size≤gb238));replace HK:=zh (KeepBut.trans (by repeat (with_reducible first|exact HK.out|apply yl|apply ym|apply yx|apply yn|refine keep_far ?_ GW234.out _)) (KeepBut.of_below hb g none) (.inl rfl));have NB234_238:=zh ((by rw [hg];exact yc (yi (g:=gb234) (o:=.cells #[.int .i64 0,.int .i64 0,.string (⟨#[]⟩ : ByteArray)] 25 (0,0)) (by (with_reducible repeat first|apply ze|apply zf|apply zg);exact BK234.out)) : gb234≠gb238));have NB238_234:=zh NB234_238.out.symm;replace BK234:=zh (cD BK234.out (by (with_reducible repeat first|apply ze|apply zf|apply zg);exact BK234.out) hb);have NB0_238:=zh ((by rw [hg];exact yc (IsS89.lt (show IsS89 w0 _ g t236 t237 from by repeat (with_reducible first|exact HI0.out|apply IsS89.alloc|apply IsS89.drewN|apply IsS89.drew|apply IsS89.set_0|apply IsS89.set_1|refine IsS89.far ?_ NB0_234.out _))) : g≠gb238));have NB238_0:=zh ((by rw [hg];exact yd (IsS89.lt (show IsS89 w0 _ g t236 t237 from by repeat (with_reducible first|exact HI0.out|apply IsS89.alloc|apply IsS89.drewN|apply IsS89.drew|apply IsS89.set_0|apply IsS89.set_1|refine IsS89.far ?_ NB0_234.out _))) : gb238≠g));replace HI0:=zh (IsS89.below (by repeat (with_reducible first|exact HI0.out|apply IsS89.alloc|apply IsS89.drewN|apply IsS89.drew|apply IsS89.set_0|apply IsS89.set_1|refine IsS89.far ?_ NB0_234.out _)) hb);clear hb hbox hg;have hnb31:=NB238_234.out;have hnc31:=NB234_238.out;have hnb32:=NB238_0.out;have hnc32:=NB0_238.out;obtain ⟨hcz33_0,hcz33_1,hcz33_2,hfz33_0,hfz33_1,hfz33_2⟩:=cB3 BK238.out))
 (try simp only [Act.put,zi,zj,zk])
 go_cut [20] (fun v20 wc => ∃ (kq : Nat) (x20_26 : Bool),v20 = .bool x20_26∧Aside0 (Fc.j0 kq x20_26 t236 t237 t235 0 (⟨#[]⟩ : ByteArray)=some (r1,r2,r3,r4,r5))∧Aside0 (kq≤k)∧Aside0 (wc.heap[gb234]? = some (.cells #[.int .i64 0,.int .i64 0,.string (⟨#[]⟩ : ByteArray)] 25 (0,0)))∧Aside0 (wc.heap[gb238]? = some (.cells #[.int .i64 t235,.int .i64 0,.string (⟨#[]⟩ : ByteArray)] 25 (0,0)))∧Aside0 (IsS89 w0 wc g t236 t237)∧Aside0 (KeepBut w wc g none)∧Aside0 (Below w0.heap.size w0 wc))
 case first =>
  have H:=HC27.out;clear HC27
  by_cases c34 : t235=3
  ·
   rw [if_pos c34] at H
   have c34b0 : (t235 == 3)=true:=ya.mpr c34;have c34b1 : (t235 != 3)=false:=zX.mpr c34;clear c34;(first|rw [c34b0]|(simp only [zG,zH];rw [c34b0])|skip);have H':=zh H;clear H
   go_wp2
   go_meet
   case rel=>exact ⟨_,((t235 == 3)),(by first|rfl|(simp;done)|(simp [*];done)),H',⟨by first|omega|exact ye _⟩,⟨by (with_reducible repeat first|apply ze|apply zf|apply zg);refine cS3 ?_ NB234_238.out;(with_reducible repeat first|apply ze|apply zf|apply zg);exact BK234.out⟩,⟨by (with_reducible repeat first|apply ze|apply zf|apply zg);refine zL (cs:=#[.int .i64 t235,.int .i64 0,.string (⟨#[]⟩ : ByteArray)]) ?_ 2 _ rfl;(with_reducible repeat first|apply ze|apply zf|apply zg);refine zL (cs:=#[.int .i64 t235,.int .i64 0,.string (⟨#[]⟩ : ByteArray)]) ?_ 1 _ rfl;(with_reducible repeat first|apply ze|apply zf|apply zg);refine zL (cs:=#[.int .i64 0,.int .i64 0,.string (⟨#[]⟩ : ByteArray)]) ?_ 0 _ rfl;(with_reducible repeat first|apply ze|apply zf|apply zg);exact BK238.out⟩,⟨by repeat (with_reducible first|exact HI0.out|apply IsS89.alloc|apply IsS89.drewN|apply IsS89.drew|apply IsS89.set_0|apply IsS89.set_1|refine IsS89.far ?_ NB0_234.out _|refine IsS89.far ?_ NB0_238.out _)⟩,⟨by repeat (with_reducible first|exact HK.out|apply yl|apply ym|apply yx|apply yn|refine keep_far ?_ GW234.out _|refine keep_far ?_ GW238.out _)⟩,⟨by repeat (with_reducible first|exact HB.out|apply za|apply zb|apply zc|refine zd ?_ (IsS89.ge HI0.out)|refine zd ?_ GE234.out|refine zd ?_ GE238.out)⟩⟩
  rw [if_neg c34] at H;have c34b0 : (t235 == 3)=false:=zY.mpr c34;have c34b1 : (t235 != 3)=true:=zZ.mpr c34;(first|rw [c34b0]|(simp only [zG,zH];rw [c34b0])|skip)
  by_cases c35 : t235=4
  ·
   rw [if_pos c35] at H
   have c35b0 : (t235 == 4)=true:=ya.mpr c35;have c35b1 : (t235 != 4)=false:=zX.mpr c35;clear c35;have H':=zh H;clear H
   go_wp2
   go_meet
   case rel=>exact ⟨_,((t235 == 4)),(by first|rfl|(simp;done)|(simp [*];done)),H',⟨by first|omega|exact ye _⟩,⟨by (with_reducible repeat first|apply ze|apply zf|apply zg);refine cS3 ?_ NB234_238.out;(with_reducible repeat first|apply ze|apply zf|apply zg);exact BK234.out⟩,⟨by (with_reducible repeat first|apply ze|apply zf|apply zg);refine zL (cs:=#[.int .i64 t235,.int .i64 0,.string (⟨#[]⟩ : ByteArray)]) ?_ 2 _ rfl;(with_reducible repeat first|apply ze|apply zf|apply zg);refine zL (cs:=#[.int .i64 t235,.int .i64 0,.string (⟨#[]⟩ : ByteArray)]) ?_ 1 _ rfl;(with_reducible repeat first|apply ze|apply zf|apply zg);refine zL (cs:=#[.int .i64 0,.int .i64 0,.string (⟨#[]⟩ : ByteArray)]) ?_ 0 _ rfl;(with_reducible repeat first|apply ze|apply zf|apply zg);exact BK238.out⟩,⟨by repeat (with_reducible first|exact HI0.out|apply IsS89.alloc|apply IsS89.drewN|apply IsS89.drew|apply IsS89.set_0|apply IsS89.set_1|refine IsS89.far ?_ NB0_234.out _|refine IsS89.far ?_ NB0_238.out _)⟩,⟨by repeat (with_reducible first|exact HK.out|apply yl|apply ym|apply yx|apply yn|refine keep_far ?_ GW234.out _|refine keep_far ?_ GW238.out _)⟩,⟨by repeat (with_reducible first|exact HB.out|apply za|apply zb|apply zc|refine zd ?_ (IsS89.ge HI0.out)|refine zd ?_ GE234.out|refine zd ?_ GE238.out)⟩⟩
  rw [if_neg c35] at H;have c35b0 : (t235 == 4)=false:=zY.mpr c35;have c35b1 : (t235 != 4)=true:=zZ.mpr c35;have H':=zh H;clear H
  go_wp2
  go_meet
  case rel=>exact ⟨_,((t235 == 5)),(by first|rfl|(simp;done)|(simp [*];done)),H',⟨by first|omega|exact ye _⟩,⟨by (with_reducible repeat first|apply ze|apply zf|apply zg);refine cS3 ?_ NB234_238.out;(with_reducible repeat first|apply ze|apply zf|apply zg);exact BK234.out⟩,⟨by (with_reducible repeat first|apply ze|apply zf|apply zg);refine zL (cs:=#[.int .i64 t235,.int .i64 0,.string (⟨#[]⟩ : ByteArray)]) ?_ 2 _ rfl;(with_reducible repeat first|apply ze|apply zf|apply zg);refine zL (cs:=#[.int .i64 t235,.int .i64 0,.string (⟨#[]⟩ : ByteArray)]) ?_ 1 _ rfl;(with_reducible repeat first|apply ze|apply zf|apply zg);refine zL (cs:=#[.int .i64 0,.int .i64 0,.string (⟨#[]⟩ : ByteArray)]) ?_ 0 _ rfl;(with_reducible repeat first|apply ze|apply zf|apply zg);exact BK238.out⟩,⟨by repeat (with_reducible first|exact HI0.out|apply IsS89.alloc|apply IsS89.drewN|apply IsS89.drew|apply IsS89.set_0|apply IsS89.set_1|refine IsS89.far ?_ NB0_234.out _|refine IsS89.far ?_ NB0_238.out _)⟩,⟨by repeat (with_reducible first|exact HK.out|apply yl|apply ym|apply yx|apply yn|refine keep_far ?_ GW234.out _|refine keep_far ?_ GW238.out _)⟩,⟨by repeat (with_reducible first|exact HB.out|apply za|apply zb|apply zc|refine zd ?_ (IsS89.ge HI0.out)|refine zd ?_ GE234.out|refine zd ?_ GE238.out)⟩⟩
 case rest =>
  clear HC27
  try clear c1 c2
  try clear p2
  try clear c3 c3b0 c3b1 c5 c6
  try clear p6
  try clear c8 c9 c13 c15 c15b0 c15b1 c20 c21 c25 c31 c32 c34 c34b0 c34b1 c35 c35b0 c35b1
  try clear hcz10_0 hcz10_1 hcz10_2
  try clear hcz12_0 hcz12_1 hcz12_2
  try clear hcz14_0 hcz14_1 hcz14_2
  try clear hcz22_0 hcz22_1 hcz22_2
  try clear hcz24_0 hcz24_1 hcz24_2
  try clear hcz26_0 hcz26_1 hcz26_2
  try clear hcz33_0 hcz33_1 hcz33_2
  try clear hfz10_0 hfz10_1 hfz10_2
  try clear hfz12_0 hfz12_1 hfz12_2
  try clear hfz14_0 hfz14_1 hfz14_2
  try clear hfz22_0 hfz22_1 hfz22_2
  try clear hfz24_0 hfz24_1 hfz24_2
  try clear hfz26_0 hfz26_1 hfz26_2
  try clear hfz33_0 hfz33_1 hfz33_2
  obtain ⟨kq,x20_26,rfl,HA,HJ26,BK234,BK238,HI0,HK,HB⟩:=hcut
  cases kq with
  | zero=>exact absurd HA.out (by simp [Fc.j0])
  | succ kj26 =>
   have H:=HA.out;clear HA;simp only [Fc.j0] at H
   by_cases c36 : x20_26=true
   ·
    subst c36
    have H1 : ((Fp.f kj26 t236 t237 2).bind fun bt245=>((F03.f bt245.2.1 bt245.2.2 bt245.1).bind fun bt248=>(some (t235,0,bt248.1,bt248.2.1,bt248.2.2))))=some (r1,r2,r3,r4,r5):=by rw [if_pos rfl] at H;exact H
    clear H;have H:=H1;clear H1;replace H:=zT.mp H;obtain ⟨⟨t245,t246,t247⟩,A370,H⟩:=H;replace H : ((F03.f t246 t247 t245).bind fun bt248=>(some (t235,0,bt248.1,bt248.2.1,bt248.2.2)))=some (r1,r2,r3,r4,r5):=H;have A37:=zh A370;clear A370;replace H:=zT.mp H;obtain ⟨⟨t248,t249,t250⟩,A380,H⟩:=H;replace H : (some (t235,0,t248,t249,t250))=some (r1,r2,r3,r4,r5):=H;have A38:=zh A380;clear A380;simp only [Option.some.injEq,Prod.mk.injEq] at H;obtain ⟨rfl,rfl,rfl,rfl,rfl⟩:=H
    go_wp2_with (first|((with_reducible refine zJ (f:=61) rfl ?_);refine yj (some 26) rfl rfl Try.func61 (by kernel_rfl) rfl #[.pointer (some ⟨g,0,none⟩),.int .i64 2] rfl (by (try simp only [zt,zu,zv]);first|done|rfl|(simp only [zw,zx];rfl)|(simp only [yr,ys,zV,zW];rfl)) ?_;(with_reducible refine (Fp.calls kj26  g t236 t237 2 t245 t246 t247 w0 _ ?side1 ?side2 A37.out).mono ?_);(case side1=>repeat (with_reducible first|exact HI0.out|apply IsS89.alloc|apply IsS89.drewN|apply IsS89.drew|apply IsS89.set_0|apply IsS89.set_1|refine IsS89.far ?_ NB0_234.out _|refine IsS89.far ?_ NB0_238.out _));(case side2=>repeat (with_reducible first|exact HB.out|apply za|apply zb|apply zc|refine zd ?_ (IsS89.ge HI0.out)|refine zd ?_ GE234.out|refine zd ?_ GE238.out));rintro e w39 ⟨rfl,hi,hb,hk⟩;refine ⟨_,rfl,?_⟩;replace BK234:=zh (KeepBut.blk hk (g':=gb234) (o:=.cells #[.int .i64 0,.int .i64 0,.string (⟨#[]⟩ : ByteArray)] 25 (0,0)) (by (with_reducible repeat first|apply ze|apply zf|apply zg);exact BK234.out) NB234_0.out (by simp));replace BK238:=zh (KeepBut.blk hk (g':=gb238) (o:=.cells #[.int .i64 t235,.int .i64 0,.string (⟨#[]⟩ : ByteArray)] 25 (0,0)) (by (with_reducible repeat first|apply ze|apply zf|apply zg);exact BK238.out) NB238_0.out (by simp));replace HK:=zh (KeepBut.trans (by repeat (with_reducible first|exact HK.out|apply yl|apply ym|apply yx|apply yn|refine keep_far ?_ GW234.out _|refine keep_far ?_ GW238.out _)) hk (.inl rfl));replace HB:=zh (hb);replace HI0:=zh (hi);(try clear hb);(try clear hb2);(try clear hk);(try clear hi))|((with_reducible refine zJ (f:=60) rfl ?_);refine yj (some 27) rfl rfl Try.func60 (by kernel_rfl) rfl #[.pointer (some ⟨g,0,none⟩),.int .i64 t245] rfl (by (try simp only [zt,zu,zv]);first|done|rfl|(simp only [zw,zx];rfl)|(simp only [yr,ys,zV,zW];rfl)) ?_;(with_reducible refine (F03.calls  g t246 t247 t245 t248 t249 t250 w0 _ ?side1 ?side2 A38.out).mono ?_);(case side1=>repeat (with_reducible first|exact HI0.out|apply IsS89.alloc|apply IsS89.drewN|apply IsS89.drew|apply IsS89.set_0|apply IsS89.set_1|refine IsS89.far ?_ NB0_234.out _|refine IsS89.far ?_ NB0_238.out _));(case side2=>repeat (with_reducible first|exact HB.out|apply za|apply zb|apply zc|refine zd ?_ (IsS89.ge HI0.out)|refine zd ?_ GE234.out|refine zd ?_ GE238.out));rintro e w40 ⟨rfl,hi,hb,hk⟩;refine ⟨_,rfl,?_⟩;replace BK234:=zh (KeepBut.blk hk (g':=gb234) (o:=.cells #[.int .i64 0,.int .i64 0,.string (⟨#[]⟩ : ByteArray)] 25 (0,0)) (by (with_reducible repeat first|apply ze|apply zf|apply zg);exact BK234.out) NB234_0.out (by simp));replace BK238:=zh (KeepBut.blk hk (g':=gb238) (o:=.cells #[.int .i64 t235,.int .i64 0,.string (⟨#[]⟩ : ByteArray)] 25 (0,0)) (by (with_reducible repeat first|apply ze|apply zf|apply zg);exact BK238.out) NB238_0.out (by simp));replace HK:=zh (KeepBut.trans (by repeat (with_reducible first|exact HK.out|apply yl|apply ym|apply yx|apply yn|refine keep_far ?_ GW234.out _|refine keep_far ?_ GW238.out _)) hk (.inl rfl));replace HB:=zh (hb);replace HI0:=zh (hi);(try clear hb);(try clear hb2);(try clear hk);(try clear hi);have hnb41:=NB238_234.out;have hnc41:=NB234_238.out;have hnb42:=NB238_0.out;have hnc42:=NB0_238.out;obtain ⟨hcz43_0,hcz43_1,hcz43_2,hfz43_0,hfz43_1,hfz43_2⟩:=cB3 BK238.out;have hnb44:=NB234_0.out;have hnc44:=NB0_234.out;obtain ⟨hcz45_0,hcz45_1,hcz45_2,hfz45_0,hfz45_1,hfz45_2⟩:=cB3 BK234.out))
    refine bodyPost_ret (results_cell_row rfl _ _ gb234 25 #[.int .i64 t235,.int .i64 0,.string t248] (0,0) _ rfl (by (with_reducible repeat first|apply ze|apply zf|apply zg);refine zL (cs:=#[.int .i64 t235,.int .i64 0,.string (⟨#[]⟩ : ByteArray)]) ?_ 2 _ rfl;(with_reducible repeat first|apply ze|apply zf|apply zg);refine zL (cs:=#[.int .i64 t235,.int .i64 0,.string (⟨#[]⟩ : ByteArray)]) ?_ 1 _ rfl;(with_reducible repeat first|apply ze|apply zf|apply zg);refine zL (cs:=#[.int .i64 0,.int .i64 0,.string (⟨#[]⟩ : ByteArray)]) ?_ 0 _ rfl;(with_reducible repeat first|apply ze|apply zf|apply zg);refine zS ?_ NB234_238.out _;(with_reducible repeat first|apply ze|apply zf|apply zg);exact BK234.out) Try.underlying25 rfl (by kernel_rfl)) rfl ?_;exact ⟨by first|rfl|(simp [yt,yu] <;> rfl)|(simp [*,yt,yu] <;> rfl),by repeat (with_reducible first|exact HI0.out|apply IsS89.alloc|apply IsS89.drewN|apply IsS89.drew|apply IsS89.set_0|apply IsS89.set_1|refine IsS89.far ?_ NB0_234.out _|refine IsS89.far ?_ NB0_238.out _),by repeat (with_reducible first|exact HB.out|apply za|apply zb|apply zc|refine zd ?_ (IsS89.ge HI0.out)|refine zd ?_ GE234.out|refine zd ?_ GE238.out),by repeat (with_reducible first|exact HK.out|apply yl|apply ym|apply yx|apply yn|refine keep_far ?_ GW234.out _|refine keep_far ?_ GW238.out _)⟩
   replace c36:=yb.mpr c36;subst c36;have H1 : (some (t235,0,(⟨#[]⟩ : ByteArray),t236,t237))=some (r1,r2,r3,r4,r5):=by rw [if_neg (show ¬ (false=true) by decide)] at H;exact H
   clear H;have H:=H1;clear H1;simp only [Option.some.injEq,Prod.mk.injEq] at H;obtain ⟨rfl,rfl,rfl,rfl,rfl⟩:=H;have hnb46:=NB238_234.out;have hnc46:=NB234_238.out;have hnb47:=NB238_0.out;have hnc47:=NB0_238.out;obtain ⟨hcz48_0,hcz48_1,hcz48_2,hfz48_0,hfz48_1,hfz48_2⟩:=cB3 BK238.out;have hnb49:=NB234_0.out;have hnc49:=NB0_234.out;obtain ⟨hcz50_0,hcz50_1,hcz50_2,hfz50_0,hfz50_1,hfz50_2⟩:=cB3 BK234.out
   go_wp2
   refine bodyPost_ret (results_cell_row rfl _ _ gb234 25 #[.int .i64 t235,.int .i64 0,.string (⟨#[]⟩ : ByteArray)] (0,0) _ rfl (by (with_reducible repeat first|apply ze|apply zf|apply zg);refine zL (cs:=#[.int .i64 t235,.int .i64 0,.string (⟨#[]⟩ : ByteArray)]) ?_ 2 _ rfl;(with_reducible repeat first|apply ze|apply zf|apply zg);refine zL (cs:=#[.int .i64 t235,.int .i64 0,.string (⟨#[]⟩ : ByteArray)]) ?_ 1 _ rfl;(with_reducible repeat first|apply ze|apply zf|apply zg);refine zL (cs:=#[.int .i64 0,.int .i64 0,.string (⟨#[]⟩ : ByteArray)]) ?_ 0 _ rfl;(with_reducible repeat first|apply ze|apply zf|apply zg);exact BK234.out) Try.underlying25 rfl (by kernel_rfl)) rfl ?_;exact ⟨by first|rfl|(simp [yt,yu] <;> rfl)|(simp [*,yt,yu] <;> rfl),by repeat (with_reducible first|exact HI0.out|apply IsS89.alloc|apply IsS89.drewN|apply IsS89.drew|apply IsS89.set_0|apply IsS89.set_1|refine IsS89.far ?_ NB0_234.out _|refine IsS89.far ?_ NB0_238.out _),by repeat (with_reducible first|exact HB.out|apply za|apply zb|apply zc|refine zd ?_ (IsS89.ge HI0.out)|refine zd ?_ GE234.out|refine zd ?_ GE238.out),by repeat (with_reducible first|exact HK.out|apply yl|apply ym|apply yx|apply yn|refine keep_far ?_ GW234.out _|refine keep_far ?_ GW238.out _)⟩


def Fh.l0 : Nat→List (S25)→ByteArray→Bool→Option ((List (S25))×Bool)
 | 0,_,_,_=>none
 | k+1,x5,x253000,x253001=>if x253000.toList=([] : List UInt8) then (some (x5,!x253001)) else (if x253001=true then (some (x5,!x253001)) else ((Fc.f k x253000 x253001).bind fun bt256=>(if x5.length<4398046511104 then (Fh.l0 k (x5 ++ [(⟨bt256.1,bt256.2.1,bt256.2.2.1⟩ : S25)]) bt256.2.2.2.1 bt256.2.2.2.2) else (none))))
def Fh.f (k : Nat) (a0_0 : Int) (a0_1 : Int) (a0_2 : ByteArray) : Option ((List (S25))×Bool):=Fh.l0 k (([] : List (S25))) a0_2 false
theorem Fh.mono_l : ∀ k,(∀ y0 y1 y2,LeO (Fh.l0 k y0 y1 y2) (Fh.l0 (k+1) y0 y1 y2))
 | 0=>fun _ _ _ r h=>by simp [Fh.l0] at h
 | k+1=>by
  have ih0:=Fh.mono_l k;intro y0 y1 y2;unfold Fh.l0
  repeat' first|(with_reducible first|exact ih0 _ _ _|exact Fc.mono _ _ _|exact zQ _|exact zN _|refine zP ?_ ?_|refine zO ?_ (fun _=>?_))|refine zP ?_ ?_|refine zO ?_ (fun _=>?_)
theorem Fh.mono : ∀ a0 a1 a2 k,LeO (Fh.f k a0 a1 a2) (Fh.f (k+1) a0 a1 a2):=by
 intro a0 a1 a2 k;have ih0:=Fh.mono_l k;unfold Fh.f
 repeat' first|(with_reducible first|exact ih0 _ _ _|exact Fc.mono _ _ _|exact zQ _|exact zN _|refine zP ?_ ?_|refine zO ?_ (fun _=>?_))|refine zP ?_ ?_|refine zO ?_ (fun _=>?_)
set_option maxHeartbeats 8000000 in
set_option maxRecDepth 100000 in
theorem Fh.calls (k : Nat) (a0_0 : Int) (a0_1 : Int) (a0_2 : ByteArray) (r1 : List (S25)) (r2 : Bool) (w : World) (h : Fh.f k a0_0 a0_1 a0_2=some (r1,r2)) :
  Calls Try.prog 36 #[.agg #[.int .i64 a0_0,.int .i64 a0_1,.string a0_2]] w fun e w' => ∃ v0_ : Value,e = .returned (.tuple #[v0_,.bool r2])∧Kd.R k25 25 w' w.heap.size (fun _=>True) v0_ r1∧Below w.heap.size w w':=by
 have hu25:=Try.underlying25;have hu89:=Try.underlying89;have HB:=zh (Below.refl w.heap.size w);have H : (Fh.l0 k (([] : List (S25))) a0_2 false)=some (r1,r2):=h;clear h;obtain ⟨y253,hy253⟩ : ∃ y_ : List (S25),y_=(([] : List (S25))):=⟨_,rfl⟩;replace H : (Fh.l0 k y253 a0_2 false)=some (r1,r2):=by first|(rw [hy253];with_reducible exact H)|(have H2_:=(Option.bind_some _ _).symm.trans H;rw [hy253];with_reducible exact H2_)|(have H2_:=(Option.bind_some _ _).symm.trans H;with_reducible exact H2_)|with_reducible exact H|(rw [hy253];exact H)|exact H
 have Ny253:=zh hy253;clear hy253;have H':=zh H;clear H
 go_enter Try.func36,Try.ntmps36
 go_wp2_with (first|((with_reducible refine zK (N:=1) rfl ?_);refine zI ?hg (N:=1) ?hd (cs:=#[.int .i64 a0_0,.int .i64 a0_1,.string a0_2]) (t:=25) ?hr ?_;(case hd=>rfl);(case hg=>rfl);(case hr=>go_simp <;> rfl);intro gb251 hg w2 hbox hb;have BK251:=zh (hbox);have hH_:=cH (by repeat (with_reducible first|exact HB.out|apply za|apply zb|apply zc)) hb hg;have GW251:=zh hH_.1;have GE251:=GW251;replace HB:=zh hH_.2;clear hb hbox hg hH_;obtain ⟨hcz3_0,hcz3_1,hcz3_2,hfz3_0,hfz3_1,hfz3_2⟩:=cB3 BK251.out)|((with_reducible refine zK (N:=9) rfl ?_);refine zI ?hg (N:=9) ?hd (cs:=#[.string a0_2,.bool false]) (t:=89) ?hr ?_;(case hd=>rfl);(case hg=>rfl);(case hr=>go_simp <;> rfl);intro gb252 hg w4 hbox hb;have BK252:=zh (hbox);have hH_:=cH (by repeat (with_reducible first|exact HB.out|apply za|apply zb|apply zc|refine zd ?_ GE251.out)) hb hg;have GW252:=zh hH_.1;have GE252:=GW252;replace HB:=zh hH_.2;have NB251_252:=zh ((by rw [hg];exact yc (yi (g:=gb251) (o:=.cells #[.int .i64 a0_0,.int .i64 a0_1,.string a0_2] 25 (0,0)) (by (with_reducible repeat first|apply ze|apply zf|apply zg);exact BK251.out)) : gb251≠gb252));have NB252_251:=zh NB251_252.out.symm;replace BK251:=zh (cD BK251.out (by (with_reducible repeat first|apply ze|apply zf|apply zg);exact BK251.out) hb);clear hb hbox hg hH_)|((with_reducible refine zK (N:=10) rfl ?_);refine Kd.R_lit k25 _ 25 ?hg (N:=10) ?hd (xs:=([] : List (S25))) (inner:=[]) (ok:=fun _=>True) (okp:=fun _=>True) ?hr ?hp (fun _ hk=>hk) trivial (Below.refl _ _) (ye _) (by simp) ?_;(case hd=>rfl);(case hg=>rfl);(case hr=>go_simp <;> rfl);(case hp=>exact (Reps.none _ _));intro v254 w5 ho6 hb hg_ hnew_;clear hg_ hnew_;(first|rw [← Ny253.out] at ho6|(simp only [Int.reduceToNat] at ho6;rw [← Ny253.out] at ho6));have HO255:=zh (yy (Kd.R_newB ho6 (g:=gb251) (o:=.cells #[.int .i64 a0_0,.int .i64 a0_1,.string a0_2] 25 (0,0)) (by (with_reducible repeat first|apply ze|apply zf|apply zg);exact BK251.out)) (zB (by repeat (with_reducible first|exact HB.out|apply za|apply zb|apply zc|refine zd ?_ GE251.out|refine zd ?_ GE252.out))));replace BK251:=zh (cD BK251.out (by (with_reducible repeat first|apply ze|apply zf|apply zg);exact BK251.out) hb);replace BK252:=zh (cD BK252.out (by (with_reducible repeat first|apply ze|apply zf|apply zg);exact BK252.out) hb);replace HB:=zh (zC (by repeat (with_reducible first|exact HB.out|apply za|apply zb|apply zc|refine zd ?_ GE251.out|refine zd ?_ GE252.out)) hb);clear hb ho6))
 repeat (go_quiet (first|((with_reducible refine zK (N:=1) rfl ?_);refine zI ?hg (N:=1) ?hd (cs:=#[.int .i64 a0_0,.int .i64 a0_1,.string a0_2]) (t:=25) ?hr ?_;(case hd=>rfl);(case hg=>rfl);(case hr=>go_simp <;> rfl);intro gb251 hg w2 hbox hb;have BK251:=zh (hbox);have hH_:=cH (by repeat (with_reducible first|exact HB.out|apply za|apply zb|apply zc)) hb hg;have GW251:=zh hH_.1;have GE251:=GW251;replace HB:=zh hH_.2;clear hb hbox hg hH_;obtain ⟨hcz3_0,hcz3_1,hcz3_2,hfz3_0,hfz3_1,hfz3_2⟩:=cB3 BK251.out)|((with_reducible refine zK (N:=9) rfl ?_);refine zI ?hg (N:=9) ?hd (cs:=#[.string a0_2,.bool false]) (t:=89) ?hr ?_;(case hd=>rfl);(case hg=>rfl);(case hr=>go_simp <;> rfl);intro gb252 hg w4 hbox hb;have BK252:=zh (hbox);have hH_:=cH (by repeat (with_reducible first|exact HB.out|apply za|apply zb|apply zc|refine zd ?_ GE251.out)) hb hg;have GW252:=zh hH_.1;have GE252:=GW252;replace HB:=zh hH_.2;have NB251_252:=zh ((by rw [hg];exact yc (yi (g:=gb251) (o:=.cells #[.int .i64 a0_0,.int .i64 a0_1,.string a0_2] 25 (0,0)) (by (with_reducible repeat first|apply ze|apply zf|apply zg);exact BK251.out)) : gb251≠gb252));have NB252_251:=zh NB251_252.out.symm;replace BK251:=zh (cD BK251.out (by (with_reducible repeat first|apply ze|apply zf|apply zg);exact BK251.out) hb);clear hb hbox hg hH_)|((with_reducible refine zK (N:=10) rfl ?_);refine Kd.R_lit k25 _ 25 ?hg (N:=10) ?hd (xs:=([] : List (S25))) (inner:=[]) (ok:=fun _=>True) (okp:=fun _=>True) ?hr ?hp (fun _ hk=>hk) trivial (Below.refl _ _) (ye _) (by simp) ?_;(case hd=>rfl);(case hg=>rfl);(case hr=>go_simp <;> rfl);(case hp=>exact (Reps.none _ _));intro v254 w5 ho6 hb hg_ hnew_;clear hg_ hnew_;(first|rw [← Ny253.out] at ho6|(simp only [Int.reduceToNat] at ho6;rw [← Ny253.out] at ho6));have HO255:=zh (yy (Kd.R_newB ho6 (g:=gb251) (o:=.cells #[.int .i64 a0_0,.int .i64 a0_1,.string a0_2] 25 (0,0)) (by (with_reducible repeat first|apply ze|apply zf|apply zg);exact BK251.out)) (zB (by repeat (with_reducible first|exact HB.out|apply za|apply zb|apply zc|refine zd ?_ GE251.out|refine zd ?_ GE252.out))));replace BK251:=zh (cD BK251.out (by (with_reducible repeat first|apply ze|apply zf|apply zg);exact BK251.out) hb);replace BK252:=zh (cD BK252.out (by (with_reducible repeat first|apply ze|apply zf|apply zg);exact BK252.out) hb);replace HB:=zh (zC (by repeat (with_reducible first|exact HB.out|apply za|apply zb|apply zc|refine zd ?_ GE251.out|refine zd ?_ GE252.out)) hb);clear hb ho6));try go_wp2_with (first|((with_reducible refine zK (N:=1) rfl ?_);refine zI ?hg (N:=1) ?hd (cs:=#[.int .i64 a0_0,.int .i64 a0_1,.string a0_2]) (t:=25) ?hr ?_;(case hd=>rfl);(case hg=>rfl);(case hr=>go_simp <;> rfl);intro gb251 hg w2 hbox hb;have BK251:=zh (hbox);have hH_:=cH (by repeat (with_reducible first|exact HB.out|apply za|apply zb|apply zc)) hb hg;have GW251:=zh hH_.1;have GE251:=GW251;replace HB:=zh hH_.2;clear hb hbox hg hH_;obtain ⟨hcz3_0,hcz3_1,hcz3_2,hfz3_0,hfz3_1,hfz3_2⟩:=cB3 BK251.out)|((with_reducible refine zK (N:=9) rfl ?_);refine zI ?hg (N:=9) ?hd (cs:=#[.string a0_2,.bool false]) (t:=89) ?hr ?_;(case hd=>rfl);(case hg=>rfl);(case hr=>go_simp <;> rfl);intro gb252 hg w4 hbox hb;have BK252:=zh (hbox);have hH_:=cH (by repeat (with_reducible first|exact HB.out|apply za|apply zb|apply zc|refine zd ?_ GE251.out)) hb hg;have GW252:=zh hH_.1;have GE252:=GW252;replace HB:=zh hH_.2;have NB251_252:=zh ((by rw [hg];exact yc (yi (g:=gb251) (o:=.cells #[.int .i64 a0_0,.int .i64 a0_1,.string a0_2] 25 (0,0)) (by (with_reducible repeat first|apply ze|apply zf|apply zg);exact BK251.out)) : gb251≠gb252));have NB252_251:=zh NB251_252.out.symm;replace BK251:=zh (cD BK251.out (by (with_reducible repeat first|apply ze|apply zf|apply zg);exact BK251.out) hb);clear hb hbox hg hH_)|((with_reducible refine zK (N:=10) rfl ?_);refine Kd.R_lit k25 _ 25 ?hg (N:=10) ?hd (xs:=([] : List (S25))) (inner:=[]) (ok:=fun _=>True) (okp:=fun _=>True) ?hr ?hp (fun _ hk=>hk) trivial (Below.refl _ _) (ye _) (by simp) ?_;(case hd=>rfl);(case hg=>rfl);(case hr=>go_simp <;> rfl);(case hp=>exact (Reps.none _ _));intro v254 w5 ho6 hb hg_ hnew_;clear hg_ hnew_;(first|rw [← Ny253.out] at ho6|(simp only [Int.reduceToNat] at ho6;rw [← Ny253.out] at ho6));have HO255:=zh (yy (Kd.R_newB ho6 (g:=gb251) (o:=.cells #[.int .i64 a0_0,.int .i64 a0_1,.string a0_2] 25 (0,0)) (by (with_reducible repeat first|apply ze|apply zf|apply zg);exact BK251.out)) (zB (by repeat (with_reducible first|exact HB.out|apply za|apply zb|apply zc|refine zd ?_ GE251.out|refine zd ?_ GE252.out))));replace BK251:=zh (cD BK251.out (by (with_reducible repeat first|apply ze|apply zf|apply zg);exact BK251.out) hb);replace BK252:=zh (cD BK252.out (by (with_reducible repeat first|apply ze|apply zf|apply zg);exact BK252.out) hb);replace HB:=zh (zC (by repeat (with_reducible first|exact HB.out|apply za|apply zb|apply zc|refine zd ?_ GE251.out|refine zd ?_ GE252.out)) hb);clear hb ho6)))
 go_loopg [5] k (fun kq v5 w' => ∃ (x5_1 : List (S25)) (x253000_1 : ByteArray) (x253001_1 : Bool),Aside0 (Fh.l0 kq x5_1 x253000_1 x253001_1=some (r1,r2))∧Aside0 (kq≤k)∧Aside0 (Kd.R k25 25 w' w.heap.size (fun k_=>k_≠gb251) v5 x5_1)∧Aside0 (w'.heap[gb251]? = some (.cells #[.int .i64 a0_0,.int .i64 a0_1,.string a0_2] 25 (0,0)))∧Aside0 (w'.heap[gb252]? = some (.cells #[.string x253000_1,.bool x253001_1] 89 (0,0)))∧Aside0 (Below w.heap.size w w'))
 case atStart=>exact ⟨(y253),(a0_2),(false),H',⟨ye _⟩,⟨by (with_reducible repeat (first|apply zm|apply zn|apply zo));exact zM HO255.out (fun _ hk=>hk.2)⟩,⟨by (with_reducible repeat first|apply ze|apply zf|apply zg);exact BK251.out⟩,⟨by (with_reducible repeat first|apply ze|apply zf|apply zg);exact BK252.out⟩,⟨by repeat (with_reducible first|exact HB.out|apply za|apply zb|apply zc|refine zd ?_ GE251.out|refine zd ?_ GE252.out)⟩⟩
 case round =>
  clear H'
  try clear p2
  try clear c3
  try clear hcz3_0 hcz3_1 hcz3_2 hfz3_0 hfz3_1 hfz3_2
  obtain ⟨x5_1,x253000_1,x253001_1,HA,HK1,HO_5,BK251,BK252,HB⟩:=hrel
  cases gk with
  | zero=>exact absurd HA.out (by simp [Fh.l0])
  | succ k1 =>
   have H:=HA.out;clear HA;simp only [Fh.l0] at H
   by_cases c7 : x253000_1.toList=([] : List UInt8)
   ·
    rw [if_pos c7] at H
    have c7b0 : (x253000_1.toList == ([] : List UInt8))=true:=ya.mpr c7;have c7b1 : (x253000_1.toList != ([] : List UInt8))=false:=zX.mpr c7;clear c7;simp only [Option.some.injEq,Prod.mk.injEq] at H;obtain ⟨rfl,rfl⟩:=H;have hnb8:=NB252_251.out;have hnc8:=NB251_252.out;obtain ⟨hcz9_0,hcz9_1,hfz9_0,hfz9_1⟩:=cB2 BK252.out
    go_wp2
    repeat (go_quiet (fail);try go_wp2)
    go_ret2
    exact ⟨_,by first|rfl|(simp [yt,yu] <;> rfl)|(simp [*,yt,yu] <;> rfl),by (with_reducible repeat (first|apply zm|apply zn|apply zo));exact zM HO_5.out (fun _ hk=>trivial),by repeat (with_reducible first|exact HB.out|apply za|apply zb|apply zc|refine zd ?_ GE251.out|refine zd ?_ GE252.out)⟩
   rw [if_neg c7] at H;have c7b0 : (x253000_1.toList == ([] : List UInt8))=false:=zY.mpr c7;have c7b1 : (x253000_1.toList != ([] : List UInt8))=true:=zZ.mpr c7
   by_cases c10 : x253001_1=true
   ·
    subst c10
    have H1 : (some (x5_1,!true))=some (r1,r2):=by rw [if_pos rfl] at H;exact H
    clear H;have H:=H1;clear H1;simp only [Option.some.injEq,Prod.mk.injEq] at H;obtain ⟨rfl,rfl⟩:=H;have hnb11:=NB252_251.out;have hnc11:=NB251_252.out;obtain ⟨hcz12_0,hcz12_1,hfz12_0,hfz12_1⟩:=cB2 BK252.out
    go_wp2
    repeat (go_quiet (fail);try go_wp2)
    go_ret2
    exact ⟨_,by first|rfl|(simp [yt,yu] <;> rfl)|(simp [*,yt,yu] <;> rfl),by (with_reducible repeat (first|apply zm|apply zn|apply zo));exact zM HO_5.out (fun _ hk=>trivial),by repeat (with_reducible first|exact HB.out|apply za|apply zb|apply zc|refine zd ?_ GE251.out|refine zd ?_ GE252.out)⟩
   replace c10:=yb.mpr c10;subst c10;have H1 : ((Fc.f k1 x253000_1 false).bind fun bt256=>(if x5_1.length<4398046511104 then (Fh.l0 k1 (x5_1 ++ [(⟨bt256.1,bt256.2.1,bt256.2.2.1⟩ : S25)]) bt256.2.2.2.1 bt256.2.2.2.2) else (none)))=some (r1,r2):=by rw [if_neg (show ¬ (false=true) by decide)] at H;exact H
   clear H;have H:=H1;clear H1;replace H:=zT.mp H;obtain ⟨⟨t256,t257,t258,t259,t260⟩,A130,H⟩:=H;replace H : (if x5_1.length<4398046511104 then (Fh.l0 k1 (x5_1 ++ [(⟨t256,t257,t258⟩ : S25)]) t259 t260) else (none))=some (r1,r2):=H;have A13:=zh A130;clear A130
   by_cases c14 : x5_1.length<4398046511104
   ·
    rw [if_pos c14] at H
    have LMc14:=zh c14;clear c14;obtain ⟨y261,hy261⟩ : ∃ y_ : List (S25),y_=(x5_1 ++ [(⟨t256,t257,t258⟩ : S25)]):=⟨_,rfl⟩;replace H : (Fh.l0 k1 y261 t259 t260)=some (r1,r2):=by first|(rw [hy261];with_reducible exact H)|(have H2_:=(Option.bind_some _ _).symm.trans H;rw [hy261];with_reducible exact H2_)|(have H2_:=(Option.bind_some _ _).symm.trans H;with_reducible exact H2_)|with_reducible exact H|(rw [hy261];exact H)|exact H
    have Ny261:=zh hy261;clear hy261;have H':=zh H;clear H;have hnb15:=NB252_251.out;have hnc15:=NB251_252.out;obtain ⟨hcz16_0,hcz16_1,hfz16_0,hfz16_1⟩:=cB2 BK252.out;have HI252:=zh (show IsS89 w wr gb252 x253000_1 false from ⟨BK252.out,GE252.out⟩)
    go_wp2_with (first|(go_at_call 59;(with_reducible refine (Fc.calls k1  gb252 x253000_1 false t256 t257 t258 t259 t260 w _ ?side1 ?side2 A13.out).mono ?_);(case side1=>repeat (with_reducible first|exact HI252.out|apply IsS89.alloc|apply IsS89.drewN|apply IsS89.drew|apply IsS89.set_0|apply IsS89.set_1|refine IsS89.far ?_ NB252_251.out _));(case side2=>repeat (with_reducible first|exact HB.out|apply za|apply zb|apply zc|refine zd ?_ (IsS89.ge HI252.out)|refine zd ?_ GE251.out));rintro e w17 ⟨rfl,hi,hb,hk⟩;replace HO_5:=zh (zM (Kd.R_keep (IsS89.apart (show IsS89 w _ gb252 x253000_1 false from by repeat (with_reducible first|exact HI252.out|apply IsS89.alloc|apply IsS89.drewN|apply IsS89.drew|apply IsS89.set_0|apply IsS89.set_1|refine IsS89.far ?_ NB252_251.out _)) (by (with_reducible repeat (first|apply zm|apply zn|apply zo));exact HO_5.out) (by decide)) hk (fun _ h=>h.2)) (fun _ h=>h.1));replace BK251:=zh (KeepBut.blk hk (g':=gb251) (o:=.cells #[.int .i64 a0_0,.int .i64 a0_1,.string a0_2] 25 (0,0)) (by (with_reducible repeat first|apply ze|apply zf|apply zg);exact BK251.out) NB251_252.out (by simp));replace HB:=zh (hb);replace BK252:=zh ((show _∧_ from hi).1);clear HI252;(try clear hb);(try clear hb2);(try clear hk);(try clear hi))|((with_reducible refine yB (b:=.append) (xs:=#[.tmp 23,.tmp 26]) rfl ?_);at_builtin;refine Kd.R_append k25 (w0:=w) w.heap.size rfl (.tmp 23) (.tmp 26) 34 25 (.agg #[(.int .i64 0),(.int .i64 0),(.string ⟨#[]⟩)]) 32 rfl Try.underlying34 info25 rfl (by decide) (by omega) u5 x5_1 (⟨t256,t257,t258⟩ : S25) [.int .i64 t256,.int .i64 t257,.string t258] (fun k_=>k_≠gb251) (fun _=>False) rfl rfl ?aP (fun _ hk=>hk.elim) ?aF ?aO ?aB ?aS ?aL ?_;(case aP=>exact k25_mkM _ _ _ (⟨t256,t257,t258⟩ : S25));(case aB=>exact (by repeat (with_reducible first|exact HB.out|apply za|apply zb|apply zc|refine zd ?_ GE251.out|refine zd ?_ GE252.out)));(case aF=>exact (fun k_ hk=>Kd.freshB (g:=gb251) (o:=.cells #[.int .i64 a0_0,.int .i64 a0_1,.string a0_2] 25 (0,0)) (by (with_reducible repeat first|apply ze|apply zf|apply zg);exact BK251.out) k_ hk));(case aO=>exact (by (with_reducible repeat (first|apply zm|apply zn|apply zo));exact HO_5.out));(case aS=>exact (zB (by repeat (with_reducible first|exact HB.out|apply za|apply zb|apply zc|refine zd ?_ GE251.out|refine zd ?_ GE252.out))));(case aL=>have:=LMc14.out;omega);intro v262 w18 ho hb hg hat;rw [← Ny261.out] at ho;replace BK251:=zh (yw (g:=gb251) (o:=.cells #[.int .i64 a0_0,.int .i64 a0_1,.string a0_2] 25 (0,0)) (by (with_reducible repeat first|apply ze|apply zf|apply zg);exact BK251.out) hg (yv HO_5.out (fun _ hk=>hk)));replace BK252:=zh (yw (g:=gb252) (o:=.cells #[.string t259,.bool t260] 89 (0,0)) (by (with_reducible repeat first|apply ze|apply zf|apply zg);exact BK252.out) hg (Kd.R_ne HO_5.out BK252.out (by decide)));replace HB:=zh (hb);have HO263:=zh (ho);clear HO_5 ho hb hg hat))
    repeat (go_quiet (first|(go_at_call 59;(with_reducible refine (Fc.calls k1  gb252 x253000_1 false t256 t257 t258 t259 t260 w _ ?side1 ?side2 A13.out).mono ?_);(case side1=>repeat (with_reducible first|exact HI252.out|apply IsS89.alloc|apply IsS89.drewN|apply IsS89.drew|apply IsS89.set_0|apply IsS89.set_1|refine IsS89.far ?_ NB252_251.out _));(case side2=>repeat (with_reducible first|exact HB.out|apply za|apply zb|apply zc|refine zd ?_ (IsS89.ge HI252.out)|refine zd ?_ GE251.out));rintro e w17 ⟨rfl,hi,hb,hk⟩;replace HO_5:=zh (zM (Kd.R_keep (IsS89.apart (show IsS89 w _ gb252 x253000_1 false from by repeat (with_reducible first|exact HI252.out|apply IsS89.alloc|apply IsS89.drewN|apply IsS89.drew|apply IsS89.set_0|apply IsS89.set_1|refine IsS89.far ?_ NB252_251.out _)) (by (with_reducible repeat (first|apply zm|apply zn|apply zo));exact HO_5.out) (by decide)) hk (fun _ h=>h.2)) (fun _ h=>h.1));replace BK251:=zh (KeepBut.blk hk (g':=gb251) (o:=.cells #[.int .i64 a0_0,.int .i64 a0_1,.string a0_2] 25 (0,0)) (by (with_reducible repeat first|apply ze|apply zf|apply zg);exact BK251.out) NB251_252.out (by simp));replace HB:=zh (hb);replace BK252:=zh ((show _∧_ from hi).1);clear HI252;(try clear hb);(try clear hb2);(try clear hk);(try clear hi))|((with_reducible refine yB (b:=.append) (xs:=#[.tmp 23,.tmp 26]) rfl ?_);at_builtin;refine Kd.R_append k25 (w0:=w) w.heap.size rfl (.tmp 23) (.tmp 26) 34 25 (.agg #[(.int .i64 0),(.int .i64 0),(.string ⟨#[]⟩)]) 32 rfl Try.underlying34 info25 rfl (by decide) (by omega) u5 x5_1 (⟨t256,t257,t258⟩ : S25) [.int .i64 t256,.int .i64 t257,.string t258] (fun k_=>k_≠gb251) (fun _=>False) rfl rfl ?aP (fun _ hk=>hk.elim) ?aF ?aO ?aB ?aS ?aL ?_;(case aP=>exact k25_mkM _ _ _ (⟨t256,t257,t258⟩ : S25));(case aB=>exact (by repeat (with_reducible first|exact HB.out|apply za|apply zb|apply zc|refine zd ?_ GE251.out|refine zd ?_ GE252.out)));(case aF=>exact (fun k_ hk=>Kd.freshB (g:=gb251) (o:=.cells #[.int .i64 a0_0,.int .i64 a0_1,.string a0_2] 25 (0,0)) (by (with_reducible repeat first|apply ze|apply zf|apply zg);exact BK251.out) k_ hk));(case aO=>exact (by (with_reducible repeat (first|apply zm|apply zn|apply zo));exact HO_5.out));(case aS=>exact (zB (by repeat (with_reducible first|exact HB.out|apply za|apply zb|apply zc|refine zd ?_ GE251.out|refine zd ?_ GE252.out))));(case aL=>have:=LMc14.out;omega);intro v262 w18 ho hb hg hat;rw [← Ny261.out] at ho;replace BK251:=zh (yw (g:=gb251) (o:=.cells #[.int .i64 a0_0,.int .i64 a0_1,.string a0_2] 25 (0,0)) (by (with_reducible repeat first|apply ze|apply zf|apply zg);exact BK251.out) hg (yv HO_5.out (fun _ hk=>hk)));replace BK252:=zh (yw (g:=gb252) (o:=.cells #[.string t259,.bool t260] 89 (0,0)) (by (with_reducible repeat first|apply ze|apply zf|apply zg);exact BK252.out) hg (Kd.R_ne HO_5.out BK252.out (by decide)));replace HB:=zh (hb);have HO263:=zh (ho);clear HO_5 ho hb hg hat));try go_wp2_with (first|(go_at_call 59;(with_reducible refine (Fc.calls k1  gb252 x253000_1 false t256 t257 t258 t259 t260 w _ ?side1 ?side2 A13.out).mono ?_);(case side1=>repeat (with_reducible first|exact HI252.out|apply IsS89.alloc|apply IsS89.drewN|apply IsS89.drew|apply IsS89.set_0|apply IsS89.set_1|refine IsS89.far ?_ NB252_251.out _));(case side2=>repeat (with_reducible first|exact HB.out|apply za|apply zb|apply zc|refine zd ?_ (IsS89.ge HI252.out)|refine zd ?_ GE251.out));rintro e w17 ⟨rfl,hi,hb,hk⟩;replace HO_5:=zh (zM (Kd.R_keep (IsS89.apart (show IsS89 w _ gb252 x253000_1 false from by repeat (with_reducible first|exact HI252.out|apply IsS89.alloc|apply IsS89.drewN|apply IsS89.drew|apply IsS89.set_0|apply IsS89.set_1|refine IsS89.far ?_ NB252_251.out _)) (by (with_reducible repeat (first|apply zm|apply zn|apply zo));exact HO_5.out) (by decide)) hk (fun _ h=>h.2)) (fun _ h=>h.1));replace BK251:=zh (KeepBut.blk hk (g':=gb251) (o:=.cells #[.int .i64 a0_0,.int .i64 a0_1,.string a0_2] 25 (0,0)) (by (with_reducible repeat first|apply ze|apply zf|apply zg);exact BK251.out) NB251_252.out (by simp));replace HB:=zh (hb);replace BK252:=zh ((show _∧_ from hi).1);clear HI252;(try clear hb);(try clear hb2);(try clear hk);(try clear hi))|((with_reducible refine yB (b:=.append) (xs:=#[.tmp 23,.tmp 26]) rfl ?_);at_builtin;refine Kd.R_append k25 (w0:=w) w.heap.size rfl (.tmp 23) (.tmp 26) 34 25 (.agg #[(.int .i64 0),(.int .i64 0),(.string ⟨#[]⟩)]) 32 rfl Try.underlying34 info25 rfl (by decide) (by omega) u5 x5_1 (⟨t256,t257,t258⟩ : S25) [.int .i64 t256,.int .i64 t257,.string t258] (fun k_=>k_≠gb251) (fun _=>False) rfl rfl ?aP (fun _ hk=>hk.elim) ?aF ?aO ?aB ?aS ?aL ?_;(case aP=>exact k25_mkM _ _ _ (⟨t256,t257,t258⟩ : S25));(case aB=>exact (by repeat (with_reducible first|exact HB.out|apply za|apply zb|apply zc|refine zd ?_ GE251.out|refine zd ?_ GE252.out)));(case aF=>exact (fun k_ hk=>Kd.freshB (g:=gb251) (o:=.cells #[.int .i64 a0_0,.int .i64 a0_1,.string a0_2] 25 (0,0)) (by (with_reducible repeat first|apply ze|apply zf|apply zg);exact BK251.out) k_ hk));(case aO=>exact (by (with_reducible repeat (first|apply zm|apply zn|apply zo));exact HO_5.out));(case aS=>exact (zB (by repeat (with_reducible first|exact HB.out|apply za|apply zb|apply zc|refine zd ?_ GE251.out|refine zd ?_ GE252.out))));(case aL=>have:=LMc14.out;omega);intro v262 w18 ho hb hg hat;rw [← Ny261.out] at ho;replace BK251:=zh (yw (g:=gb251) (o:=.cells #[.int .i64 a0_0,.int .i64 a0_1,.string a0_2] 25 (0,0)) (by (with_reducible repeat first|apply ze|apply zf|apply zg);exact BK251.out) hg (yv HO_5.out (fun _ hk=>hk)));replace BK252:=zh (yw (g:=gb252) (o:=.cells #[.string t259,.bool t260] 89 (0,0)) (by (with_reducible repeat first|apply ze|apply zf|apply zg);exact BK252.out) hg (Kd.R_ne HO_5.out BK252.out (by decide)));replace HB:=zh (hb);have HO263:=zh (ho);clear HO_5 ho hb hg hat)))
    go_roundg k1
    case measure=>have:=HK1.out;omega
    case rel=>exact ⟨(y261),(t259),(t260),H',⟨by have:=HK1.out;omega⟩,⟨by (with_reducible repeat (first|apply zm|apply zn|apply zo));exact HO263.out⟩,⟨by (with_reducible repeat first|apply ze|apply zf|apply zg);exact BK251.out⟩,⟨by (with_reducible repeat first|apply ze|apply zf|apply zg);exact BK252.out⟩,⟨by repeat (with_reducible first|exact HB.out|apply za|apply zb|apply zc|refine zd ?_ GE251.out|refine zd ?_ GE252.out)⟩⟩
   rw [if_neg c14] at H;exact absurd H (by simp)

end Go.Proofs.Ytoinoihiknmnmaa.Q
end
section
namespace Go.Proofs.Ytoinoihiknmnmaa.Q
open Go.RowKit Go.Proofs.YtoinoihiknmnmaaW.PrintWords Go.Proofs.YtoinoihiknmnmaaW.PrintLast Go.Proofs.YtoinoihiknmnmaaW.PrintMore
attribute [local go_sem] max2_int min2_int max_two min_two max_three min_three max_four min_four max2_str min2_str str_geq str_gtr str_leq   -- for this text's walks alone
set_option linter.unusedVariables false
set_option linter.unusedSimpArgs false

mutual
def F6.l0 : Nat→List (S43)→ByteArray→Bool→Option ((List (S43))×Bool)
 | 0,_,_,_=>none
 | k+1,x5,x266000,x266001=>if x266000.toList=([] : List UInt8) then (F6.j1 k x5 false x266000 x266001) else (F6.j1 k x5 (!x266001) x266000 x266001)
def F6.j1 : Nat→List (S43)→Bool→ByteArray→Bool→Option ((List (S43))×Bool)
 | 0,_,_,_,_=>none
 | k+1,x5,x22,x266000,x266001=>if x22=true then ((Fp.f k x266000 x266001 1).bind fun bt269=>((F03.f bt269.2.1 bt269.2.2 bt269.1).bind fun bt272=>((Fc.f k bt272.2.1 bt272.2.2).bind fun bt275=>(if x5.length<2932031007402 then (F6.l0 k (x5 ++ [(⟨bt272.1,(⟨bt275.1,bt275.2.1,bt275.2.2.1⟩ : S25)⟩ : S43)]) bt275.2.2.2.1 bt275.2.2.2.2) else (none))))) else (some (x5,!x266001))
end
def F6.f (k : Nat) (a0_0 : Int) (a0_1 : Int) (a0_2 : ByteArray) : Option ((List (S43))×Bool):=F6.l0 k (([] : List (S43))) a0_2 false
theorem F6.mono_l : ∀ k,(∀ y0 y1 y2,LeO (F6.l0 k y0 y1 y2) (F6.l0 (k+1) y0 y1 y2))∧(∀ y0 y1 y2 y3,LeO (F6.j1 k y0 y1 y2 y3) (F6.j1 (k+1) y0 y1 y2 y3))
 | 0=>⟨fun _ _ _ r h=>by simp [F6.l0] at h,fun _ _ _ _ r h=>by simp [F6.j1] at h⟩
 | k+1=>by
  obtain ⟨ih0,ih1⟩:=F6.mono_l k;refine ⟨?_,?_⟩
  ·
   intro y0 y1 y2
   unfold F6.l0
   repeat' first|(with_reducible first|exact ih0 _ _ _|exact ih1 _ _ _ _|exact Fc.mono _ _ _|exact Fp.mono _ _ _ _|exact zQ _|exact zN _|refine zP ?_ ?_|refine zO ?_ (fun _=>?_))|refine zP ?_ ?_|refine zO ?_ (fun _=>?_)
  intro y0 y1 y2 y3;unfold F6.j1
  repeat' first|(with_reducible first|exact ih0 _ _ _|exact ih1 _ _ _ _|exact Fc.mono _ _ _|exact Fp.mono _ _ _ _|exact zQ _|exact zN _|refine zP ?_ ?_|refine zO ?_ (fun _=>?_))|refine zP ?_ ?_|refine zO ?_ (fun _=>?_)
theorem F6.mono : ∀ a0 a1 a2 k,LeO (F6.f k a0 a1 a2) (F6.f (k+1) a0 a1 a2):=by
 intro a0 a1 a2 k;obtain ⟨ih0,ih1⟩:=F6.mono_l k;unfold F6.f
 repeat' first|(with_reducible first|exact ih0 _ _ _|exact ih1 _ _ _ _|exact Fc.mono _ _ _|exact Fp.mono _ _ _ _|exact zQ _|exact zN _|refine zP ?_ ?_|refine zO ?_ (fun _=>?_))|refine zP ?_ ?_|refine zO ?_ (fun _=>?_)
set_option maxHeartbeats 8000000 in
set_option maxRecDepth 100000 in
theorem F6.calls (k : Nat) (a0_0 : Int) (a0_1 : Int) (a0_2 : ByteArray) (r1 : List (S43)) (r2 : Bool) (w : World) (h : F6.f k a0_0 a0_1 a0_2=some (r1,r2)) :
  Calls Try.prog 37 #[.agg #[.int .i64 a0_0,.int .i64 a0_1,.string a0_2]] w fun e w' => ∃ v0_ : Value,e = .returned (.tuple #[v0_,.bool r2])∧Kd.R k43 43 w' w.heap.size (fun _=>True) v0_ r1∧Below w.heap.size w w':=by
 have hu25:=Try.underlying25;have hu89:=Try.underlying89;have hu43:=Try.underlying43;have HB:=zh (Below.refl w.heap.size w);have H : (F6.l0 k (([] : List (S43))) a0_2 false)=some (r1,r2):=h;clear h;obtain ⟨y266,hy266⟩ : ∃ y_ : List (S43),y_=(([] : List (S43))):=⟨_,rfl⟩;replace H : (F6.l0 k y266 a0_2 false)=some (r1,r2):=by first|(rw [hy266];with_reducible exact H)|(have H2_:=(Option.bind_some _ _).symm.trans H;rw [hy266];with_reducible exact H2_)|(have H2_:=(Option.bind_some _ _).symm.trans H;with_reducible exact H2_)|with_reducible exact H|(rw [hy266];exact H)|exact H
 have Ny266:=zh hy266;clear hy266;have H':=zh H;clear H
 go_enter Try.func37,Try.ntmps37
 go_wp2_with (first|((with_reducible refine zK (N:=1) rfl ?_);refine zI ?hg (N:=1) ?hd (cs:=#[.int .i64 a0_0,.int .i64 a0_1,.string a0_2]) (t:=25) ?hr ?_;(case hd=>rfl);(case hg=>rfl);(case hr=>go_simp <;> rfl);intro gb264 hg w2 hbox hb;have BK264:=zh (hbox);have hH_:=cH (by repeat (with_reducible first|exact HB.out|apply za|apply zb|apply zc)) hb hg;have GW264:=zh hH_.1;have GE264:=GW264;replace HB:=zh hH_.2;clear hb hbox hg hH_;obtain ⟨hcz3_0,hcz3_1,hcz3_2,hfz3_0,hfz3_1,hfz3_2⟩:=cB3 BK264.out)|((with_reducible refine zK (N:=9) rfl ?_);refine zI ?hg (N:=9) ?hd (cs:=#[.string a0_2,.bool false]) (t:=89) ?hr ?_;(case hd=>rfl);(case hg=>rfl);(case hr=>go_simp <;> rfl);intro gb265 hg w4 hbox hb;have BK265:=zh (hbox);have hH_:=cH (by repeat (with_reducible first|exact HB.out|apply za|apply zb|apply zc|refine zd ?_ GE264.out)) hb hg;have GW265:=zh hH_.1;have GE265:=GW265;replace HB:=zh hH_.2;have NB264_265:=zh ((by rw [hg];exact yc (yi (g:=gb264) (o:=.cells #[.int .i64 a0_0,.int .i64 a0_1,.string a0_2] 25 (0,0)) (by (with_reducible repeat first|apply ze|apply zf|apply zg);exact BK264.out)) : gb264≠gb265));have NB265_264:=zh NB264_265.out.symm;replace BK264:=zh (cD BK264.out (by (with_reducible repeat first|apply ze|apply zf|apply zg);exact BK264.out) hb);clear hb hbox hg hH_)|((with_reducible refine zK (N:=10) rfl ?_);refine Kd.R_lit k43 _ 43 ?hg (N:=10) ?hd (xs:=([] : List (S43))) (inner:=[]) (ok:=fun _=>True) (okp:=fun _=>True) ?hr ?hp (fun _ hk=>hk) trivial (Below.refl _ _) (ye _) (by simp) ?_;(case hd=>rfl);(case hg=>rfl);(case hr=>go_simp <;> rfl);(case hp=>exact (Reps.none _ _));intro v267 w5 ho6 hb hg_ hnew_;clear hg_ hnew_;(first|rw [← Ny266.out] at ho6|(simp only [Int.reduceToNat] at ho6;rw [← Ny266.out] at ho6));have HO268:=zh (yy ho6 (zB (by repeat (with_reducible first|exact HB.out|apply za|apply zb|apply zc|refine zd ?_ GE264.out|refine zd ?_ GE265.out))));replace BK264:=zh (cD BK264.out (by (with_reducible repeat first|apply ze|apply zf|apply zg);exact BK264.out) hb);replace BK265:=zh (cD BK265.out (by (with_reducible repeat first|apply ze|apply zf|apply zg);exact BK265.out) hb);replace HB:=zh (zC (by repeat (with_reducible first|exact HB.out|apply za|apply zb|apply zc|refine zd ?_ GE264.out|refine zd ?_ GE265.out)) hb);clear hb ho6))
 repeat (go_quiet (first|((with_reducible refine zK (N:=1) rfl ?_);refine zI ?hg (N:=1) ?hd (cs:=#[.int .i64 a0_0,.int .i64 a0_1,.string a0_2]) (t:=25) ?hr ?_;(case hd=>rfl);(case hg=>rfl);(case hr=>go_simp <;> rfl);intro gb264 hg w2 hbox hb;have BK264:=zh (hbox);have hH_:=cH (by repeat (with_reducible first|exact HB.out|apply za|apply zb|apply zc)) hb hg;have GW264:=zh hH_.1;have GE264:=GW264;replace HB:=zh hH_.2;clear hb hbox hg hH_;obtain ⟨hcz3_0,hcz3_1,hcz3_2,hfz3_0,hfz3_1,hfz3_2⟩:=cB3 BK264.out)|((with_reducible refine zK (N:=9) rfl ?_);refine zI ?hg (N:=9) ?hd (cs:=#[.string a0_2,.bool false]) (t:=89) ?hr ?_;(case hd=>rfl);(case hg=>rfl);(case hr=>go_simp <;> rfl);intro gb265 hg w4 hbox hb;have BK265:=zh (hbox);have hH_:=cH (by repeat (with_reducible first|exact HB.out|apply za|apply zb|apply zc|refine zd ?_ GE264.out)) hb hg;have GW265:=zh hH_.1;have GE265:=GW265;replace HB:=zh hH_.2;have NB264_265:=zh ((by rw [hg];exact yc (yi (g:=gb264) (o:=.cells #[.int .i64 a0_0,.int .i64 a0_1,.string a0_2] 25 (0,0)) (by (with_reducible repeat first|apply ze|apply zf|apply zg);exact BK264.out)) : gb264≠gb265));have NB265_264:=zh NB264_265.out.symm;replace BK264:=zh (cD BK264.out (by (with_reducible repeat first|apply ze|apply zf|apply zg);exact BK264.out) hb);clear hb hbox hg hH_)|((with_reducible refine zK (N:=10) rfl ?_);refine Kd.R_lit k43 _ 43 ?hg (N:=10) ?hd (xs:=([] : List (S43))) (inner:=[]) (ok:=fun _=>True) (okp:=fun _=>True) ?hr ?hp (fun _ hk=>hk) trivial (Below.refl _ _) (ye _) (by simp) ?_;(case hd=>rfl);(case hg=>rfl);(case hr=>go_simp <;> rfl);(case hp=>exact (Reps.none _ _));intro v267 w5 ho6 hb hg_ hnew_;clear hg_ hnew_;(first|rw [← Ny266.out] at ho6|(simp only [Int.reduceToNat] at ho6;rw [← Ny266.out] at ho6));have HO268:=zh (yy ho6 (zB (by repeat (with_reducible first|exact HB.out|apply za|apply zb|apply zc|refine zd ?_ GE264.out|refine zd ?_ GE265.out))));replace BK264:=zh (cD BK264.out (by (with_reducible repeat first|apply ze|apply zf|apply zg);exact BK264.out) hb);replace BK265:=zh (cD BK265.out (by (with_reducible repeat first|apply ze|apply zf|apply zg);exact BK265.out) hb);replace HB:=zh (zC (by repeat (with_reducible first|exact HB.out|apply za|apply zb|apply zc|refine zd ?_ GE264.out|refine zd ?_ GE265.out)) hb);clear hb ho6));try go_wp2_with (first|((with_reducible refine zK (N:=1) rfl ?_);refine zI ?hg (N:=1) ?hd (cs:=#[.int .i64 a0_0,.int .i64 a0_1,.string a0_2]) (t:=25) ?hr ?_;(case hd=>rfl);(case hg=>rfl);(case hr=>go_simp <;> rfl);intro gb264 hg w2 hbox hb;have BK264:=zh (hbox);have hH_:=cH (by repeat (with_reducible first|exact HB.out|apply za|apply zb|apply zc)) hb hg;have GW264:=zh hH_.1;have GE264:=GW264;replace HB:=zh hH_.2;clear hb hbox hg hH_;obtain ⟨hcz3_0,hcz3_1,hcz3_2,hfz3_0,hfz3_1,hfz3_2⟩:=cB3 BK264.out)|((with_reducible refine zK (N:=9) rfl ?_);refine zI ?hg (N:=9) ?hd (cs:=#[.string a0_2,.bool false]) (t:=89) ?hr ?_;(case hd=>rfl);(case hg=>rfl);(case hr=>go_simp <;> rfl);intro gb265 hg w4 hbox hb;have BK265:=zh (hbox);have hH_:=cH (by repeat (with_reducible first|exact HB.out|apply za|apply zb|apply zc|refine zd ?_ GE264.out)) hb hg;have GW265:=zh hH_.1;have GE265:=GW265;replace HB:=zh hH_.2;have NB264_265:=zh ((by rw [hg];exact yc (yi (g:=gb264) (o:=.cells #[.int .i64 a0_0,.int .i64 a0_1,.string a0_2] 25 (0,0)) (by (with_reducible repeat first|apply ze|apply zf|apply zg);exact BK264.out)) : gb264≠gb265));have NB265_264:=zh NB264_265.out.symm;replace BK264:=zh (cD BK264.out (by (with_reducible repeat first|apply ze|apply zf|apply zg);exact BK264.out) hb);clear hb hbox hg hH_)|((with_reducible refine zK (N:=10) rfl ?_);refine Kd.R_lit k43 _ 43 ?hg (N:=10) ?hd (xs:=([] : List (S43))) (inner:=[]) (ok:=fun _=>True) (okp:=fun _=>True) ?hr ?hp (fun _ hk=>hk) trivial (Below.refl _ _) (ye _) (by simp) ?_;(case hd=>rfl);(case hg=>rfl);(case hr=>go_simp <;> rfl);(case hp=>exact (Reps.none _ _));intro v267 w5 ho6 hb hg_ hnew_;clear hg_ hnew_;(first|rw [← Ny266.out] at ho6|(simp only [Int.reduceToNat] at ho6;rw [← Ny266.out] at ho6));have HO268:=zh (yy ho6 (zB (by repeat (with_reducible first|exact HB.out|apply za|apply zb|apply zc|refine zd ?_ GE264.out|refine zd ?_ GE265.out))));replace BK264:=zh (cD BK264.out (by (with_reducible repeat first|apply ze|apply zf|apply zg);exact BK264.out) hb);replace BK265:=zh (cD BK265.out (by (with_reducible repeat first|apply ze|apply zf|apply zg);exact BK265.out) hb);replace HB:=zh (zC (by repeat (with_reducible first|exact HB.out|apply za|apply zb|apply zc|refine zd ?_ GE264.out|refine zd ?_ GE265.out)) hb);clear hb ho6)))
 go_loopg [5] k (fun kq v5 w' => ∃ (x5_1 : List (S43)) (x266000_1 : ByteArray) (x266001_1 : Bool),Aside0 (F6.l0 kq x5_1 x266000_1 x266001_1=some (r1,r2))∧Aside0 (kq≤k)∧Aside0 (Kd.R k43 43 w' w.heap.size (fun _=>True) v5 x5_1)∧Aside0 (w'.heap[gb264]? = some (.cells #[.int .i64 a0_0,.int .i64 a0_1,.string a0_2] 25 (0,0)))∧Aside0 (w'.heap[gb265]? = some (.cells #[.string x266000_1,.bool x266001_1] 89 (0,0)))∧Aside0 (Below w.heap.size w w'))
 case atStart=>exact ⟨(y266),(a0_2),(false),H',⟨ye _⟩,⟨by (with_reducible repeat (first|apply zm|apply zn|apply zo));exact HO268.out⟩,⟨by (with_reducible repeat first|apply ze|apply zf|apply zg);exact BK264.out⟩,⟨by (with_reducible repeat first|apply ze|apply zf|apply zg);exact BK265.out⟩,⟨by repeat (with_reducible first|exact HB.out|apply za|apply zb|apply zc|refine zd ?_ GE264.out|refine zd ?_ GE265.out)⟩⟩
 case round =>
  clear H'
  try clear p2
  try clear c3
  try clear hcz3_0 hcz3_1 hcz3_2 hfz3_0 hfz3_1 hfz3_2
  obtain ⟨x5_1,x266000_1,x266001_1,HA,HK1,HO_5,BK264,BK265,HB⟩:=hrel
  cases gk with
  | zero=>exact absurd HA.out (by simp [F6.l0])
  | succ k1 =>
   have H:=HA.out;clear HA;simp only [F6.l0] at H;have HC7:=zh H;clear H
   go_upto_region 2 with (fail)
   repeat (go_quiet (fail);go_upto_region 2 with (fail))
   go_cut [22] (fun v22 wc => ∃ (kq : Nat) (x22_6 : Bool),v22 = .bool x22_6∧Aside0 (F6.j1 kq x5_1 x22_6 x266000_1 x266001_1=some (r1,r2))∧Aside0 (kq≤k1)∧Aside0 (Kd.R k43 43 wc w.heap.size (fun _=>True) u5 x5_1)∧Aside0 (wc.heap[gb264]? = some (.cells #[.int .i64 a0_0,.int .i64 a0_1,.string a0_2] 25 (0,0)))∧Aside0 (wc.heap[gb265]? = some (.cells #[.string x266000_1,.bool x266001_1] 89 (0,0)))∧Aside0 (Below w.heap.size w wc))
   case first =>
    have H:=HC7.out;clear HC7
    by_cases c8 : x266000_1.toList=([] : List UInt8)
    ·
     rw [if_pos c8] at H
     have c8b0 : (x266000_1.toList == ([] : List UInt8))=true:=ya.mpr c8;have c8b1 : (x266000_1.toList != ([] : List UInt8))=false:=zX.mpr c8;clear c8;(first|rw [c8b0]|(simp only [zG,zH];rw [c8b0])|skip);have H':=zh H;clear H;have hnb9:=NB265_264.out;have hnc9:=NB264_265.out;obtain ⟨hcz10_0,hcz10_1,hfz10_0,hfz10_1⟩:=cB2 BK265.out
     go_wp2
     repeat (go_quiet (fail);try go_wp2)
     go_meet
     case rel=>exact ⟨_,(false),(by first|rfl|(simp;done)|(simp [*];done)),H',⟨by have:=HK1.out;first|omega|exact ye _⟩,⟨by (with_reducible repeat (first|apply zm|apply zn|apply zo));exact HO_5.out⟩,⟨by (with_reducible repeat first|apply ze|apply zf|apply zg);exact BK264.out⟩,⟨by (with_reducible repeat first|apply ze|apply zf|apply zg);exact BK265.out⟩,⟨by repeat (with_reducible first|exact HB.out|apply za|apply zb|apply zc|refine zd ?_ GE264.out|refine zd ?_ GE265.out)⟩⟩
    rw [if_neg c8] at H;have c8b0 : (x266000_1.toList == ([] : List UInt8))=false:=zY.mpr c8;have c8b1 : (x266000_1.toList != ([] : List UInt8))=true:=zZ.mpr c8;(first|rw [c8b0]|(simp only [zG,zH];rw [c8b0])|skip);have H':=zh H;clear H;have hnb11:=NB265_264.out;have hnc11:=NB264_265.out;obtain ⟨hcz12_0,hcz12_1,hfz12_0,hfz12_1⟩:=cB2 BK265.out
    go_wp2
    repeat (go_quiet (fail);try go_wp2)
    go_meet
    case rel=>exact ⟨_,(!x266001_1),(by first|rfl|(simp;done)|(simp [*];done)),H',⟨by have:=HK1.out;first|omega|exact ye _⟩,⟨by (with_reducible repeat (first|apply zm|apply zn|apply zo));exact HO_5.out⟩,⟨by (with_reducible repeat first|apply ze|apply zf|apply zg);exact BK264.out⟩,⟨by (with_reducible repeat first|apply ze|apply zf|apply zg);exact BK265.out⟩,⟨by repeat (with_reducible first|exact HB.out|apply za|apply zb|apply zc|refine zd ?_ GE264.out|refine zd ?_ GE265.out)⟩⟩
   case rest =>
    clear HC7
    try clear c1
    try clear p2
    try clear c3 c8 c8b0 c8b1 c9 c11
    try clear hcz10_0 hcz10_1
    try clear hcz12_0 hcz12_1
    try clear hcz3_0 hcz3_1 hcz3_2
    try clear hfz10_0 hfz10_1
    try clear hfz12_0 hfz12_1
    try clear hfz3_0 hfz3_1 hfz3_2
    try clear p2
    obtain ⟨kq,x22_6,rfl,HA,HJ6,HO_5,BK264,BK265,HB⟩:=hcut
    cases kq with
    | zero=>exact absurd HA.out (by simp [F6.j1])
    | succ kj6 =>
     have H:=HA.out;clear HA;simp only [F6.j1] at H
     by_cases c13 : x22_6=true
     ·
      subst c13
      have H1 : ((Fp.f kj6 x266000_1 x266001_1 1).bind fun bt269=>((F03.f bt269.2.1 bt269.2.2 bt269.1).bind fun bt272=>((Fc.f kj6 bt272.2.1 bt272.2.2).bind fun bt275=>(if x5_1.length<2932031007402 then (F6.l0 kj6 (x5_1 ++ [(⟨bt272.1,(⟨bt275.1,bt275.2.1,bt275.2.2.1⟩ : S25)⟩ : S43)]) bt275.2.2.2.1 bt275.2.2.2.2) else (none)))))=some (r1,r2):=by rw [if_pos rfl] at H;exact H
      clear H;have H:=H1;clear H1;replace H:=zT.mp H;obtain ⟨⟨t269,t270,t271⟩,A140,H⟩:=H;replace H : ((F03.f t270 t271 t269).bind fun bt272=>((Fc.f kj6 bt272.2.1 bt272.2.2).bind fun bt275=>(if x5_1.length<2932031007402 then (F6.l0 kj6 (x5_1 ++ [(⟨bt272.1,(⟨bt275.1,bt275.2.1,bt275.2.2.1⟩ : S25)⟩ : S43)]) bt275.2.2.2.1 bt275.2.2.2.2) else (none))))=some (r1,r2):=H;have A14:=zh A140;clear A140;replace H:=zT.mp H;obtain ⟨⟨t272,t273,t274⟩,A150,H⟩:=H;replace H : ((Fc.f kj6 t273 t274).bind fun bt275=>(if x5_1.length<2932031007402 then (F6.l0 kj6 (x5_1 ++ [(⟨t272,(⟨bt275.1,bt275.2.1,bt275.2.2.1⟩ : S25)⟩ : S43)]) bt275.2.2.2.1 bt275.2.2.2.2) else (none)))=some (r1,r2):=H;have A15:=zh A150;clear A150;replace H:=zT.mp H;obtain ⟨⟨t275,t276,t277,t278,t279⟩,A160,H⟩:=H;replace H : (if x5_1.length<2932031007402 then (F6.l0 kj6 (x5_1 ++ [(⟨t272,(⟨t275,t276,t277⟩ : S25)⟩ : S43)]) t278 t279) else (none))=some (r1,r2):=H;have A16:=zh A160;clear A160
      by_cases c17 : x5_1.length<2932031007402
      ·
       rw [if_pos c17] at H
       have LMc17:=zh c17;clear c17;obtain ⟨y280,hy280⟩ : ∃ y_ : List (S43),y_=(x5_1 ++ [(⟨t272,(⟨t275,t276,t277⟩ : S25)⟩ : S43)]):=⟨_,rfl⟩;replace H : (F6.l0 kj6 y280 t278 t279)=some (r1,r2):=by first|(rw [hy280];with_reducible exact H)|(have H2_:=(Option.bind_some _ _).symm.trans H;rw [hy280];with_reducible exact H2_)|(have H2_:=(Option.bind_some _ _).symm.trans H;with_reducible exact H2_)|with_reducible exact H|(rw [hy280];exact H)|exact H
       have Ny280:=zh hy280;clear hy280;have H':=zh H;clear H;have HI265:=zh (show IsS89 w wc gb265 x266000_1 x266001_1 from ⟨BK265.out,GE265.out⟩)
       go_wp2_with (first|(go_at_call 61;(with_reducible refine (Fp.calls kj6  gb265 x266000_1 x266001_1 1 t269 t270 t271 w _ ?side1 ?side2 A14.out).mono ?_);(case side1=>repeat (with_reducible first|exact HI265.out|apply IsS89.alloc|apply IsS89.drewN|apply IsS89.drew|apply IsS89.set_0|apply IsS89.set_1|refine IsS89.far ?_ NB265_264.out _));(case side2=>repeat (with_reducible first|exact HB.out|apply za|apply zb|apply zc|refine zd ?_ (IsS89.ge HI265.out)|refine zd ?_ GE264.out));rintro e w18 ⟨rfl,hi,hb,hk⟩;replace HO_5:=zh (zM (Kd.R_keep (IsS89.apart (show IsS89 w _ gb265 x266000_1 x266001_1 from by repeat (with_reducible first|exact HI265.out|apply IsS89.alloc|apply IsS89.drewN|apply IsS89.drew|apply IsS89.set_0|apply IsS89.set_1|refine IsS89.far ?_ NB265_264.out _)) (by (with_reducible repeat (first|apply zm|apply zn|apply zo));exact HO_5.out) (by decide)) hk (fun _ h=>h.2)) (fun _ h=>h.1));replace BK264:=zh (KeepBut.blk hk (g':=gb264) (o:=.cells #[.int .i64 a0_0,.int .i64 a0_1,.string a0_2] 25 (0,0)) (by (with_reducible repeat first|apply ze|apply zf|apply zg);exact BK264.out) NB264_265.out (by simp));replace HB:=zh (hb);replace BK265:=zh ((show _∧_ from hi).1);clear HI265;(try clear hb);(try clear hb2);(try clear hk);(try clear hi);have HI265:=zh (show IsS89 w w18 gb265 t270 t271 from ⟨BK265.out,GE265.out⟩))|(go_at_call 60;(with_reducible refine (F03.calls  gb265 t270 t271 t269 t272 t273 t274 w _ ?side1 ?side2 A15.out).mono ?_);(case side1=>repeat (with_reducible first|exact HI265.out|apply IsS89.alloc|apply IsS89.drewN|apply IsS89.drew|apply IsS89.set_0|apply IsS89.set_1|refine IsS89.far ?_ NB265_264.out _));(case side2=>repeat (with_reducible first|exact HB.out|apply za|apply zb|apply zc|refine zd ?_ (IsS89.ge HI265.out)|refine zd ?_ GE264.out));rintro e w19 ⟨rfl,hi,hb,hk⟩;replace HO_5:=zh (zM (Kd.R_keep (IsS89.apart (show IsS89 w _ gb265 t270 t271 from by repeat (with_reducible first|exact HI265.out|apply IsS89.alloc|apply IsS89.drewN|apply IsS89.drew|apply IsS89.set_0|apply IsS89.set_1|refine IsS89.far ?_ NB265_264.out _)) (by (with_reducible repeat (first|apply zm|apply zn|apply zo));exact HO_5.out) (by decide)) hk (fun _ h=>h.2)) (fun _ h=>h.1));replace BK264:=zh (KeepBut.blk hk (g':=gb264) (o:=.cells #[.int .i64 a0_0,.int .i64 a0_1,.string a0_2] 25 (0,0)) (by (with_reducible repeat first|apply ze|apply zf|apply zg);exact BK264.out) NB264_265.out (by simp));replace HB:=zh (hb);replace BK265:=zh ((show _∧_ from hi).1);clear HI265;(try clear hb);(try clear hb2);(try clear hk);(try clear hi);have HI265:=zh (show IsS89 w w19 gb265 t273 t274 from ⟨BK265.out,GE265.out⟩))|(go_at_call 59;(with_reducible refine (Fc.calls kj6  gb265 t273 t274 t275 t276 t277 t278 t279 w _ ?side1 ?side2 A16.out).mono ?_);(case side1=>repeat (with_reducible first|exact HI265.out|apply IsS89.alloc|apply IsS89.drewN|apply IsS89.drew|apply IsS89.set_0|apply IsS89.set_1|refine IsS89.far ?_ NB265_264.out _));(case side2=>repeat (with_reducible first|exact HB.out|apply za|apply zb|apply zc|refine zd ?_ (IsS89.ge HI265.out)|refine zd ?_ GE264.out));rintro e w20 ⟨rfl,hi,hb,hk⟩;replace HO_5:=zh (zM (Kd.R_keep (IsS89.apart (show IsS89 w _ gb265 t273 t274 from by repeat (with_reducible first|exact HI265.out|apply IsS89.alloc|apply IsS89.drewN|apply IsS89.drew|apply IsS89.set_0|apply IsS89.set_1|refine IsS89.far ?_ NB265_264.out _)) (by (with_reducible repeat (first|apply zm|apply zn|apply zo));exact HO_5.out) (by decide)) hk (fun _ h=>h.2)) (fun _ h=>h.1));replace BK264:=zh (KeepBut.blk hk (g':=gb264) (o:=.cells #[.int .i64 a0_0,.int .i64 a0_1,.string a0_2] 25 (0,0)) (by (with_reducible repeat first|apply ze|apply zf|apply zg);exact BK264.out) NB264_265.out (by simp));replace HB:=zh (hb);replace BK265:=zh ((show _∧_ from hi).1);clear HI265;(try clear hb);(try clear hb2);(try clear hk);(try clear hi))|((with_reducible refine yB (b:=.append) (xs:=#[.tmp 23,.tmp 31]) rfl ?_);at_builtin;refine Kd.R_append k43 (w0:=w) w.heap.size rfl (.tmp 23) (.tmp 31) 28 43 (.agg #[(.string ⟨#[]⟩),(.int .i64 0),(.int .i64 0),(.string ⟨#[]⟩)]) 48 rfl Try.underlying28 info43 rfl (by decide) (by omega) u5 x5_1 (⟨t272,(⟨t275,t276,t277⟩ : S25)⟩ : S43) [.string t272,.int .i64 t275,.int .i64 t276,.string t277] (fun _=>True) (fun _=>False) rfl rfl ?aP (fun _ hk=>hk.elim) ?aF ?aO ?aB ?aS ?aL ?_;(case aP=>exact k43_mkM _ _ _ (⟨t272,(⟨t275,t276,t277⟩ : S25)⟩ : S43));(case aB=>exact (by repeat (with_reducible first|exact HB.out|apply za|apply zb|apply zc|refine zd ?_ GE264.out|refine zd ?_ GE265.out)));(case aF=>exact (fun _ _=>trivial));(case aO=>exact (by (with_reducible repeat (first|apply zm|apply zn|apply zo));exact HO_5.out));(case aS=>exact (zB (by repeat (with_reducible first|exact HB.out|apply za|apply zb|apply zc|refine zd ?_ GE264.out|refine zd ?_ GE265.out))));(case aL=>have:=LMc17.out;omega);intro v281 w21 ho hb hg hat;rw [← Ny280.out] at ho;replace BK264:=zh (yw (g:=gb264) (o:=.cells #[.int .i64 a0_0,.int .i64 a0_1,.string a0_2] 25 (0,0)) (by (with_reducible repeat first|apply ze|apply zf|apply zg);exact BK264.out) hg (Kd.R_ne HO_5.out BK264.out (by decide)));replace BK265:=zh (yw (g:=gb265) (o:=.cells #[.string t278,.bool t279] 89 (0,0)) (by (with_reducible repeat first|apply ze|apply zf|apply zg);exact BK265.out) hg (Kd.R_ne HO_5.out BK265.out (by decide)));replace HB:=zh (hb);have HO282:=zh (ho);clear HO_5 ho hb hg hat))
       repeat (go_quiet (first|(go_at_call 61;(with_reducible refine (Fp.calls kj6  gb265 x266000_1 x266001_1 1 t269 t270 t271 w _ ?side1 ?side2 A14.out).mono ?_);(case side1=>repeat (with_reducible first|exact HI265.out|apply IsS89.alloc|apply IsS89.drewN|apply IsS89.drew|apply IsS89.set_0|apply IsS89.set_1|refine IsS89.far ?_ NB265_264.out _));(case side2=>repeat (with_reducible first|exact HB.out|apply za|apply zb|apply zc|refine zd ?_ (IsS89.ge HI265.out)|refine zd ?_ GE264.out));rintro e w18 ⟨rfl,hi,hb,hk⟩;replace HO_5:=zh (zM (Kd.R_keep (IsS89.apart (show IsS89 w _ gb265 x266000_1 x266001_1 from by repeat (with_reducible first|exact HI265.out|apply IsS89.alloc|apply IsS89.drewN|apply IsS89.drew|apply IsS89.set_0|apply IsS89.set_1|refine IsS89.far ?_ NB265_264.out _)) (by (with_reducible repeat (first|apply zm|apply zn|apply zo));exact HO_5.out) (by decide)) hk (fun _ h=>h.2)) (fun _ h=>h.1));replace BK264:=zh (KeepBut.blk hk (g':=gb264) (o:=.cells #[.int .i64 a0_0,.int .i64 a0_1,.string a0_2] 25 (0,0)) (by (with_reducible repeat first|apply ze|apply zf|apply zg);exact BK264.out) NB264_265.out (by simp));replace HB:=zh (hb);replace BK265:=zh ((show _∧_ from hi).1);clear HI265;(try clear hb);(try clear hb2);(try clear hk);(try clear hi);have HI265:=zh (show IsS89 w w18 gb265 t270 t271 from ⟨BK265.out,GE265.out⟩))|(go_at_call 60;(with_reducible refine (F03.calls  gb265 t270 t271 t269 t272 t273 t274 w _ ?side1 ?side2 A15.out).mono ?_);(case side1=>repeat (with_reducible first|exact HI265.out|apply IsS89.alloc|apply IsS89.drewN|apply IsS89.drew|apply IsS89.set_0|apply IsS89.set_1|refine IsS89.far ?_ NB265_264.out _));(case side2=>repeat (with_reducible first|exact HB.out|apply za|apply zb|apply zc|refine zd ?_ (IsS89.ge HI265.out)|refine zd ?_ GE264.out));rintro e w19 ⟨rfl,hi,hb,hk⟩;replace HO_5:=zh (zM (Kd.R_keep (IsS89.apart (show IsS89 w _ gb265 t270 t271 from by repeat (with_reducible first|exact HI265.out|apply IsS89.alloc|apply IsS89.drewN|apply IsS89.drew|apply IsS89.set_0|apply IsS89.set_1|refine IsS89.far ?_ NB265_264.out _)) (by (with_reducible repeat (first|apply zm|apply zn|apply zo));exact HO_5.out) (by decide)) hk (fun _ h=>h.2)) (fun _ h=>h.1));replace BK264:=zh (KeepBut.blk hk (g':=gb264) (o:=.cells #[.int .i64 a0_0,.int .i64 a0_1,.string a0_2] 25 (0,0)) (by (with_reducible repeat first|apply ze|apply zf|apply zg);exact BK264.out) NB264_265.out (by simp));replace HB:=zh (hb);replace BK265:=zh ((show _∧_ from hi).1);clear HI265;(try clear hb);(try clear hb2);(try clear hk);(try clear hi);have HI265:=zh (show IsS89 w w19 gb265 t273 t274 from ⟨BK265.out,GE265.out⟩))|(go_at_call 59;(with_reducible refine (Fc.calls kj6  gb265 t273 t274 t275 t276 t277 t278 t279 w _ ?side1 ?side2 A16.out).mono ?_);(case side1=>repeat (with_reducible first|exact HI265.out|apply IsS89.alloc|apply IsS89.drewN|apply IsS89.drew|apply IsS89.set_0|apply IsS89.set_1|refine IsS89.far ?_ NB265_264.out _));(case side2=>repeat (with_reducible first|exact HB.out|apply za|apply zb|apply zc|refine zd ?_ (IsS89.ge HI265.out)|refine zd ?_ GE264.out));rintro e w20 ⟨rfl,hi,hb,hk⟩;replace HO_5:=zh (zM (Kd.R_keep (IsS89.apart (show IsS89 w _ gb265 t273 t274 from by repeat (with_reducible first|exact HI265.out|apply IsS89.alloc|apply IsS89.drewN|apply IsS89.drew|apply IsS89.set_0|apply IsS89.set_1|refine IsS89.far ?_ NB265_264.out _)) (by (with_reducible repeat (first|apply zm|apply zn|apply zo));exact HO_5.out) (by decide)) hk (fun _ h=>h.2)) (fun _ h=>h.1));replace BK264:=zh (KeepBut.blk hk (g':=gb264) (o:=.cells #[.int .i64 a0_0,.int .i64 a0_1,.string a0_2] 25 (0,0)) (by (with_reducible repeat first|apply ze|apply zf|apply zg);exact BK264.out) NB264_265.out (by simp));replace HB:=zh (hb);replace BK265:=zh ((show _∧_ from hi).1);clear HI265;(try clear hb);(try clear hb2);(try clear hk);(try clear hi))|((with_reducible refine yB (b:=.append) (xs:=#[.tmp 23,.tmp 31]) rfl ?_);at_builtin;refine Kd.R_append k43 (w0:=w) w.heap.size rfl (.tmp 23) (.tmp 31) 28 43 (.agg #[(.string ⟨#[]⟩),(.int .i64 0),(.int .i64 0),(.string ⟨#[]⟩)]) 48 rfl Try.underlying28 info43 rfl (by decide) (by omega) u5 x5_1 (⟨t272,(⟨t275,t276,t277⟩ : S25)⟩ : S43) [.string t272,.int .i64 t275,.int .i64 t276,.string t277] (fun _=>True) (fun _=>False) rfl rfl ?aP (fun _ hk=>hk.elim) ?aF ?aO ?aB ?aS ?aL ?_;(case aP=>exact k43_mkM _ _ _ (⟨t272,(⟨t275,t276,t277⟩ : S25)⟩ : S43));(case aB=>exact (by repeat (with_reducible first|exact HB.out|apply za|apply zb|apply zc|refine zd ?_ GE264.out|refine zd ?_ GE265.out)));(case aF=>exact (fun _ _=>trivial));(case aO=>exact (by (with_reducible repeat (first|apply zm|apply zn|apply zo));exact HO_5.out));(case aS=>exact (zB (by repeat (with_reducible first|exact HB.out|apply za|apply zb|apply zc|refine zd ?_ GE264.out|refine zd ?_ GE265.out))));(case aL=>have:=LMc17.out;omega);intro v281 w21 ho hb hg hat;rw [← Ny280.out] at ho;replace BK264:=zh (yw (g:=gb264) (o:=.cells #[.int .i64 a0_0,.int .i64 a0_1,.string a0_2] 25 (0,0)) (by (with_reducible repeat first|apply ze|apply zf|apply zg);exact BK264.out) hg (Kd.R_ne HO_5.out BK264.out (by decide)));replace BK265:=zh (yw (g:=gb265) (o:=.cells #[.string t278,.bool t279] 89 (0,0)) (by (with_reducible repeat first|apply ze|apply zf|apply zg);exact BK265.out) hg (Kd.R_ne HO_5.out BK265.out (by decide)));replace HB:=zh (hb);have HO282:=zh (ho);clear HO_5 ho hb hg hat));try go_wp2_with (first|(go_at_call 61;(with_reducible refine (Fp.calls kj6  gb265 x266000_1 x266001_1 1 t269 t270 t271 w _ ?side1 ?side2 A14.out).mono ?_);(case side1=>repeat (with_reducible first|exact HI265.out|apply IsS89.alloc|apply IsS89.drewN|apply IsS89.drew|apply IsS89.set_0|apply IsS89.set_1|refine IsS89.far ?_ NB265_264.out _));(case side2=>repeat (with_reducible first|exact HB.out|apply za|apply zb|apply zc|refine zd ?_ (IsS89.ge HI265.out)|refine zd ?_ GE264.out));rintro e w18 ⟨rfl,hi,hb,hk⟩;replace HO_5:=zh (zM (Kd.R_keep (IsS89.apart (show IsS89 w _ gb265 x266000_1 x266001_1 from by repeat (with_reducible first|exact HI265.out|apply IsS89.alloc|apply IsS89.drewN|apply IsS89.drew|apply IsS89.set_0|apply IsS89.set_1|refine IsS89.far ?_ NB265_264.out _)) (by (with_reducible repeat (first|apply zm|apply zn|apply zo));exact HO_5.out) (by decide)) hk (fun _ h=>h.2)) (fun _ h=>h.1));replace BK264:=zh (KeepBut.blk hk (g':=gb264) (o:=.cells #[.int .i64 a0_0,.int .i64 a0_1,.string a0_2] 25 (0,0)) (by (with_reducible repeat first|apply ze|apply zf|apply zg);exact BK264.out) NB264_265.out (by simp));replace HB:=zh (hb);replace BK265:=zh ((show _∧_ from hi).1);clear HI265;(try clear hb);(try clear hb2);(try clear hk);(try clear hi);have HI265:=zh (show IsS89 w w18 gb265 t270 t271 from ⟨BK265.out,GE265.out⟩))|(go_at_call 60;(with_reducible refine (F03.calls  gb265 t270 t271 t269 t272 t273 t274 w _ ?side1 ?side2 A15.out).mono ?_);(case side1=>repeat (with_reducible first|exact HI265.out|apply IsS89.alloc|apply IsS89.drewN|apply IsS89.drew|apply IsS89.set_0|apply IsS89.set_1|refine IsS89.far ?_ NB265_264.out _));(case side2=>repeat (with_reducible first|exact HB.out|apply za|apply zb|apply zc|refine zd ?_ (IsS89.ge HI265.out)|refine zd ?_ GE264.out));rintro e w19 ⟨rfl,hi,hb,hk⟩;replace HO_5:=zh (zM (Kd.R_keep (IsS89.apart (show IsS89 w _ gb265 t270 t271 from by repeat (with_reducible first|exact HI265.out|apply IsS89.alloc|apply IsS89.drewN|apply IsS89.drew|apply IsS89.set_0|apply IsS89.set_1|refine IsS89.far ?_ NB265_264.out _)) (by (with_reducible repeat (first|apply zm|apply zn|apply zo));exact HO_5.out) (by decide)) hk (fun _ h=>h.2)) (fun _ h=>h.1));replace BK264:=zh (KeepBut.blk hk (g':=gb264) (o:=.cells #[.int .i64 a0_0,.int .i64 a0_1,.string a0_2] 25 (0,0)) (by (with_reducible repeat first|apply ze|apply zf|apply zg);exact BK264.out) NB264_265.out (by simp));replace HB:=zh (hb);replace BK265:=zh ((show _∧_ from hi).1);clear HI265;(try clear hb);(try clear hb2);(try clear hk);(try clear hi);have HI265:=zh (show IsS89 w w19 gb265 t273 t274 from ⟨BK265.out,GE265.out⟩))|(go_at_call 59;(with_reducible refine (Fc.calls kj6  gb265 t273 t274 t275 t276 t277 t278 t279 w _ ?side1 ?side2 A16.out).mono ?_);(case side1=>repeat (with_reducible first|exact HI265.out|apply IsS89.alloc|apply IsS89.drewN|apply IsS89.drew|apply IsS89.set_0|apply IsS89.set_1|refine IsS89.far ?_ NB265_264.out _));(case side2=>repeat (with_reducible first|exact HB.out|apply za|apply zb|apply zc|refine zd ?_ (IsS89.ge HI265.out)|refine zd ?_ GE264.out));rintro e w20 ⟨rfl,hi,hb,hk⟩;replace HO_5:=zh (zM (Kd.R_keep (IsS89.apart (show IsS89 w _ gb265 t273 t274 from by repeat (with_reducible first|exact HI265.out|apply IsS89.alloc|apply IsS89.drewN|apply IsS89.drew|apply IsS89.set_0|apply IsS89.set_1|refine IsS89.far ?_ NB265_264.out _)) (by (with_reducible repeat (first|apply zm|apply zn|apply zo));exact HO_5.out) (by decide)) hk (fun _ h=>h.2)) (fun _ h=>h.1));replace BK264:=zh (KeepBut.blk hk (g':=gb264) (o:=.cells #[.int .i64 a0_0,.int .i64 a0_1,.string a0_2] 25 (0,0)) (by (with_reducible repeat first|apply ze|apply zf|apply zg);exact BK264.out) NB264_265.out (by simp));replace HB:=zh (hb);replace BK265:=zh ((show _∧_ from hi).1);clear HI265;(try clear hb);(try clear hb2);(try clear hk);(try clear hi))|((with_reducible refine yB (b:=.append) (xs:=#[.tmp 23,.tmp 31]) rfl ?_);at_builtin;refine Kd.R_append k43 (w0:=w) w.heap.size rfl (.tmp 23) (.tmp 31) 28 43 (.agg #[(.string ⟨#[]⟩),(.int .i64 0),(.int .i64 0),(.string ⟨#[]⟩)]) 48 rfl Try.underlying28 info43 rfl (by decide) (by omega) u5 x5_1 (⟨t272,(⟨t275,t276,t277⟩ : S25)⟩ : S43) [.string t272,.int .i64 t275,.int .i64 t276,.string t277] (fun _=>True) (fun _=>False) rfl rfl ?aP (fun _ hk=>hk.elim) ?aF ?aO ?aB ?aS ?aL ?_;(case aP=>exact k43_mkM _ _ _ (⟨t272,(⟨t275,t276,t277⟩ : S25)⟩ : S43));(case aB=>exact (by repeat (with_reducible first|exact HB.out|apply za|apply zb|apply zc|refine zd ?_ GE264.out|refine zd ?_ GE265.out)));(case aF=>exact (fun _ _=>trivial));(case aO=>exact (by (with_reducible repeat (first|apply zm|apply zn|apply zo));exact HO_5.out));(case aS=>exact (zB (by repeat (with_reducible first|exact HB.out|apply za|apply zb|apply zc|refine zd ?_ GE264.out|refine zd ?_ GE265.out))));(case aL=>have:=LMc17.out;omega);intro v281 w21 ho hb hg hat;rw [← Ny280.out] at ho;replace BK264:=zh (yw (g:=gb264) (o:=.cells #[.int .i64 a0_0,.int .i64 a0_1,.string a0_2] 25 (0,0)) (by (with_reducible repeat first|apply ze|apply zf|apply zg);exact BK264.out) hg (Kd.R_ne HO_5.out BK264.out (by decide)));replace BK265:=zh (yw (g:=gb265) (o:=.cells #[.string t278,.bool t279] 89 (0,0)) (by (with_reducible repeat first|apply ze|apply zf|apply zg);exact BK265.out) hg (Kd.R_ne HO_5.out BK265.out (by decide)));replace HB:=zh (hb);have HO282:=zh (ho);clear HO_5 ho hb hg hat)))
       go_roundg kj6
       case measure=>have:=HK1.out;have:=HJ6.out;omega
       case rel=>exact ⟨(y280),(t278),(t279),H',⟨by have:=HK1.out;have:=HJ6.out;omega⟩,⟨by (with_reducible repeat (first|apply zm|apply zn|apply zo));exact HO282.out⟩,⟨by (with_reducible repeat first|apply ze|apply zf|apply zg);exact BK264.out⟩,⟨by (with_reducible repeat first|apply ze|apply zf|apply zg);exact BK265.out⟩,⟨by repeat (with_reducible first|exact HB.out|apply za|apply zb|apply zc|refine zd ?_ GE264.out|refine zd ?_ GE265.out)⟩⟩
      rw [if_neg c17] at H;exact absurd H (by simp)
     replace c13:=yb.mpr c13;subst c13;have H1 : (some (x5_1,!x266001_1))=some (r1,r2):=by rw [if_neg (show ¬ (false=true) by decide)] at H;exact H
     clear H;have H:=H1;clear H1;simp only [Option.some.injEq,Prod.mk.injEq] at H;obtain ⟨rfl,rfl⟩:=H;have hnb22:=NB265_264.out;have hnc22:=NB264_265.out;obtain ⟨hcz23_0,hcz23_1,hfz23_0,hfz23_1⟩:=cB2 BK265.out
     go_wp2
     repeat (go_quiet (fail);try go_wp2)
     go_ret2
     exact ⟨_,by first|rfl|(simp [yt,yu] <;> rfl)|(simp [*,yt,yu] <;> rfl),by (with_reducible repeat (first|apply zm|apply zn|apply zo));exact HO_5.out,by repeat (with_reducible first|exact HB.out|apply za|apply zb|apply zc|refine zd ?_ GE264.out|refine zd ?_ GE265.out)⟩

end Go.Proofs.Ytoinoihiknmnmaa.Q
end

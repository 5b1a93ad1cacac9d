/- Texts of this claim, merged by a program of this session. -/
import Derived.Test.YtoinoihiknmnmaaKLawFnListsp24
section
namespace Go.Proofs.Ytoinoihiknmnmaa.Q
open Go.RowKit Go.Proofs.YtoinoihiknmnmaaW.PrintWords Go.Proofs.YtoinoihiknmnmaaW.PrintLast Go.Proofs.YtoinoihiknmnmaaW.PrintMore
attribute [local go_sem] max2_int min2_int max_two min_two max_three min_three max_four min_four max2_str min2_str str_geq str_gtr str_leq   -- for this text's walks alone
set_option linter.unusedVariables false
set_option linter.unusedSimpArgs false

mutual
def F7.l0 : Nat→List (S43)→ByteArray→Bool→Option ((List (S43))×Bool)
 | 0,_,_,_=>none
 | k+1,x5,x266000,x266001=>if x266000.toList=([] : List UInt8) then (F7.j1 k x5 false x266000 x266001) else (F7.j1 k x5 (!x266001) x266000 x266001)
def F7.j1 : Nat→List (S43)→Bool→ByteArray→Bool→Option ((List (S43))×Bool)
 | 0,_,_,_,_=>none
 | k+1,x5,x22,x266000,x266001=>if x22=true then ((Ft.f k x266000 x266001 1).bind fun bt269=>((F0f.f bt269.2.1 bt269.2.2 bt269.1).bind fun bt272=>((Fg.f k bt272.2.1 bt272.2.2).bind fun bt275=>(if x5.length<2932031007402 then (F7.l0 k (x5 ++ [(⟨bt272.1,(⟨bt275.1,bt275.2.1,bt275.2.2.1⟩ : S25)⟩ : S43)]) bt275.2.2.2.1 bt275.2.2.2.2) else (none))))) else (some (x5,!x266001))
end
def F7.f (k : Nat) (a0_0 : Int) (a0_1 : Int) (a0_2 : ByteArray) : Option ((List (S43))×Bool):=F7.l0 k (([] : List (S43))) a0_2 false
theorem F7.mono_l : ∀ k,(∀ y0 y1 y2,LeO (F7.l0 k y0 y1 y2) (F7.l0 (k+1) y0 y1 y2))∧(∀ y0 y1 y2 y3,LeO (F7.j1 k y0 y1 y2 y3) (F7.j1 (k+1) y0 y1 y2 y3))
 | 0=>⟨fun _ _ _ r h=>by simp [F7.l0] at h,fun _ _ _ _ r h=>by simp [F7.j1] at h⟩
 | k+1=>by
  obtain ⟨ih0,ih1⟩:=F7.mono_l k;refine ⟨?_,?_⟩
  ·
   intro y0 y1 y2
   unfold F7.l0
   repeat' first|(with_reducible first|exact ih0 _ _ _|exact ih1 _ _ _ _|exact Fg.mono _ _ _|exact Ft.mono _ _ _ _|exact zQ _|exact zN _|refine zP ?_ ?_|refine zO ?_ (fun _=>?_))|refine zP ?_ ?_|refine zO ?_ (fun _=>?_)
  intro y0 y1 y2 y3;unfold F7.j1
  repeat' first|(with_reducible first|exact ih0 _ _ _|exact ih1 _ _ _ _|exact Fg.mono _ _ _|exact Ft.mono _ _ _ _|exact zQ _|exact zN _|refine zP ?_ ?_|refine zO ?_ (fun _=>?_))|refine zP ?_ ?_|refine zO ?_ (fun _=>?_)
theorem F7.mono : ∀ a0 a1 a2 k,LeO (F7.f k a0 a1 a2) (F7.f (k+1) a0 a1 a2):=by
 intro a0 a1 a2 k;obtain ⟨ih0,ih1⟩:=F7.mono_l k;unfold F7.f
 repeat' first|(with_reducible first|exact ih0 _ _ _|exact ih1 _ _ _ _|exact Fg.mono _ _ _|exact Ft.mono _ _ _ _|exact zQ _|exact zN _|refine zP ?_ ?_|refine zO ?_ (fun _=>?_))|refine zP ?_ ?_|refine zO ?_ (fun _=>?_)
set_option maxHeartbeats 8000000 in
set_option maxRecDepth 100000 in
theorem F7.calls (k : Nat) (a0_0 : Int) (a0_1 : Int) (a0_2 : ByteArray) (r1 : List (S43)) (r2 : Bool) (w : World) (h : F7.f k a0_0 a0_1 a0_2=some (r1,r2)) :
  Calls Try.prog 37 #[.agg #[.int .i64 a0_0,.int .i64 a0_1,.string a0_2]] w fun e w' => ∃ v0_ : Value,e = .returned (.tuple #[v0_,.bool r2])∧Kd.R k43 43 w' w.heap.size (fun _=>True) v0_ r1∧Below w.heap.size w w':=by
 have hu25:=Try.underlying25;have hu89:=Try.underlying89;have hu43:=Try.underlying43;have HB:=zh (Below.refl w.heap.size w);have H : (F7.l0 k (([] : List (S43))) a0_2 false)=some (r1,r2):=h;clear h;obtain ⟨y266,hy266⟩ : ∃ y_ : List (S43),y_=(([] : List (S43))):=⟨_,rfl⟩;replace H : (F7.l0 k y266 a0_2 false)=some (r1,r2):=by first|(rw [hy266];with_reducible exact H)|(have H2_:=(Option.bind_some _ _).symm.trans H;rw [hy266];with_reducible exact H2_)|(have H2_:=(Option.bind_some _ _).symm.trans H;with_reducible exact H2_)|with_reducible exact H|(rw [hy266];exact H)|exact H
 have Ny266:=zh hy266;clear hy266;have H':=zh H;clear H
 go_enter Try.func37,Try.ntmps37
 go_wp2_with (first|((with_reducible refine zK (N:=1) rfl ?_);refine zI ?hg (N:=1) ?hd (cs:=#[.int .i64 a0_0,.int .i64 a0_1,.string a0_2]) (t:=25) ?hr ?_;(case hd=>rfl);(case hg=>rfl);(case hr=>go_simp <;> rfl);intro gb264 hg w2 hbox hb;have BK264:=zh (hbox);have hH_:=cH jG hb hg;have GW264:=zh hH_.1;have GE264:=GW264;replace HB:=zh hH_.2;clear hb hbox hg hH_;obtain ⟨hcz3_0,hcz3_1,hcz3_2,hfz3_0,hfz3_1,hfz3_2⟩:=cB3 BK264.out)|((with_reducible refine zK (N:=9) rfl ?_);refine zI ?hg (N:=9) ?hd (cs:=#[.string a0_2,.bool false]) (t:=89) ?hr ?_;(case hd=>rfl);(case hg=>rfl);(case hr=>go_simp <;> rfl);intro gb265 hg w4 hbox hb;have BK265:=zh (hbox);have hH_:=cH jCL hb hg;have GW265:=zh hH_.1;have GE265:=GW265;replace HB:=zh hH_.2;have NB264_265:=zh ((jCM : gb264≠gb265));have NB265_264:=zh NB264_265.out.symm;replace BK264:=zh (cD BK264.out jh hb);clear hb hbox hg hH_)|((with_reducible refine zK (N:=10) rfl ?_);refine Kd.R_lit k43 _ 43 ?hg (N:=10) ?hd (xs:=([] : List (S43))) (inner:=[]) (ok:=fun _=>True) (okp:=fun _=>True) ?hr ?hp (fun _ hk=>hk) trivial (Below.refl _ _) (ye _) (by simp) ?_;(case hd=>rfl);(case hg=>rfl);(case hr=>go_simp <;> rfl);(case hp=>exact (Reps.none _ _));intro v267 w5 ho6 hb hg_ hnew_;clear hg_ hnew_;(first|rw [← Ny266.out] at ho6|(simp only [Int.reduceToNat] at ho6;rw [← Ny266.out] at ho6));have HO268:=zh (yy ho6 (zB jr));replace BK264:=zh (cD BK264.out jh hb);replace BK265:=zh (cD BK265.out jAZ hb);replace HB:=zh (zC jr hb);clear hb ho6))
 repeat (go_quiet (first|((with_reducible refine zK (N:=1) rfl ?_);refine zI ?hg (N:=1) ?hd (cs:=#[.int .i64 a0_0,.int .i64 a0_1,.string a0_2]) (t:=25) ?hr ?_;(case hd=>rfl);(case hg=>rfl);(case hr=>go_simp <;> rfl);intro gb264 hg w2 hbox hb;have BK264:=zh (hbox);have hH_:=cH jG hb hg;have GW264:=zh hH_.1;have GE264:=GW264;replace HB:=zh hH_.2;clear hb hbox hg hH_;obtain ⟨hcz3_0,hcz3_1,hcz3_2,hfz3_0,hfz3_1,hfz3_2⟩:=cB3 BK264.out)|((with_reducible refine zK (N:=9) rfl ?_);refine zI ?hg (N:=9) ?hd (cs:=#[.string a0_2,.bool false]) (t:=89) ?hr ?_;(case hd=>rfl);(case hg=>rfl);(case hr=>go_simp <;> rfl);intro gb265 hg w4 hbox hb;have BK265:=zh (hbox);have hH_:=cH jCL hb hg;have GW265:=zh hH_.1;have GE265:=GW265;replace HB:=zh hH_.2;have NB264_265:=zh ((jCM : gb264≠gb265));have NB265_264:=zh NB264_265.out.symm;replace BK264:=zh (cD BK264.out jh hb);clear hb hbox hg hH_)|((with_reducible refine zK (N:=10) rfl ?_);refine Kd.R_lit k43 _ 43 ?hg (N:=10) ?hd (xs:=([] : List (S43))) (inner:=[]) (ok:=fun _=>True) (okp:=fun _=>True) ?hr ?hp (fun _ hk=>hk) trivial (Below.refl _ _) (ye _) (by simp) ?_;(case hd=>rfl);(case hg=>rfl);(case hr=>go_simp <;> rfl);(case hp=>exact (Reps.none _ _));intro v267 w5 ho6 hb hg_ hnew_;clear hg_ hnew_;(first|rw [← Ny266.out] at ho6|(simp only [Int.reduceToNat] at ho6;rw [← Ny266.out] at ho6));have HO268:=zh (yy ho6 (zB jr));replace BK264:=zh (cD BK264.out jh hb);replace BK265:=zh (cD BK265.out jAZ hb);replace HB:=zh (zC jr hb);clear hb ho6));try go_wp2_with (first|((with_reducible refine zK (N:=1) rfl ?_);refine zI ?hg (N:=1) ?hd (cs:=#[.int .i64 a0_0,.int .i64 a0_1,.string a0_2]) (t:=25) ?hr ?_;(case hd=>rfl);(case hg=>rfl);(case hr=>go_simp <;> rfl);intro gb264 hg w2 hbox hb;have BK264:=zh (hbox);have hH_:=cH jG hb hg;have GW264:=zh hH_.1;have GE264:=GW264;replace HB:=zh hH_.2;clear hb hbox hg hH_;obtain ⟨hcz3_0,hcz3_1,hcz3_2,hfz3_0,hfz3_1,hfz3_2⟩:=cB3 BK264.out)|((with_reducible refine zK (N:=9) rfl ?_);refine zI ?hg (N:=9) ?hd (cs:=#[.string a0_2,.bool false]) (t:=89) ?hr ?_;(case hd=>rfl);(case hg=>rfl);(case hr=>go_simp <;> rfl);intro gb265 hg w4 hbox hb;have BK265:=zh (hbox);have hH_:=cH jCL hb hg;have GW265:=zh hH_.1;have GE265:=GW265;replace HB:=zh hH_.2;have NB264_265:=zh ((jCM : gb264≠gb265));have NB265_264:=zh NB264_265.out.symm;replace BK264:=zh (cD BK264.out jh hb);clear hb hbox hg hH_)|((with_reducible refine zK (N:=10) rfl ?_);refine Kd.R_lit k43 _ 43 ?hg (N:=10) ?hd (xs:=([] : List (S43))) (inner:=[]) (ok:=fun _=>True) (okp:=fun _=>True) ?hr ?hp (fun _ hk=>hk) trivial (Below.refl _ _) (ye _) (by simp) ?_;(case hd=>rfl);(case hg=>rfl);(case hr=>go_simp <;> rfl);(case hp=>exact (Reps.none _ _));intro v267 w5 ho6 hb hg_ hnew_;clear hg_ hnew_;(first|rw [← Ny266.out] at ho6|(simp only [Int.reduceToNat] at ho6;rw [← Ny266.out] at ho6));have HO268:=zh (yy ho6 (zB jr));replace BK264:=zh (cD BK264.out jh hb);replace BK265:=zh (cD BK265.out jAZ hb);replace HB:=zh (zC jr hb);clear hb ho6)))
 go_loopg [5] k (fun kq v5 w' => ∃ (x5_1 : List (S43)) (x266000_1 : ByteArray) (x266001_1 : Bool),Aside0 (F7.l0 kq x5_1 x266000_1 x266001_1=some (r1,r2))∧Aside0 (kq≤k)∧Aside0 (Kd.R k43 43 w' w.heap.size (fun _=>True) v5 x5_1)∧Aside0 (w'.heap[gb264]? = some (.cells #[.int .i64 a0_0,.int .i64 a0_1,.string a0_2] 25 (0,0)))∧Aside0 (w'.heap[gb265]? = some (.cells #[.string x266000_1,.bool x266001_1] 89 (0,0)))∧Aside0 (Below w.heap.size w w'))
 case atStart=>exact ⟨(y266),(a0_2),(false),H',⟨ye _⟩,⟨by (with_reducible repeat (first|apply zm|apply zn|apply zo));exact HO268.out⟩,⟨jh⟩,⟨jAZ⟩,⟨jr⟩⟩
 case round =>
  clear H'
  try clear p2
  try clear c3
  try clear hcz3_0 hcz3_1 hcz3_2 hfz3_0 hfz3_1 hfz3_2
  obtain ⟨x5_1,x266000_1,x266001_1,HA,HK1,HO_5,BK264,BK265,HB⟩:=hrel
  cases gk with
  | zero=>exact absurd HA.out (by simp [F7.l0])
  | succ k1 =>
   have H:=HA.out;clear HA;simp only [F7.l0] at H;have HC7:=zh H;clear H
   go_upto_region 2 with (fail)
   repeat (go_quiet (fail);go_upto_region 2 with (fail))
   go_cut [22] (fun v22 wc => ∃ (kq : Nat) (x22_6 : Bool),v22 = .bool x22_6∧Aside0 (F7.j1 kq x5_1 x22_6 x266000_1 x266001_1=some (r1,r2))∧Aside0 (kq≤k1)∧Aside0 (Kd.R k43 43 wc w.heap.size (fun _=>True) u5 x5_1)∧Aside0 (wc.heap[gb264]? = some (.cells #[.int .i64 a0_0,.int .i64 a0_1,.string a0_2] 25 (0,0)))∧Aside0 (wc.heap[gb265]? = some (.cells #[.string x266000_1,.bool x266001_1] 89 (0,0)))∧Aside0 (Below w.heap.size w wc))
   case first =>
    have H:=HC7.out;clear HC7
    by_cases c8 : x266000_1.toList=([] : List UInt8)
    ·
     rw [if_pos c8] at H
     have c8b0 : (x266000_1.toList == ([] : List UInt8))=true:=ya.mpr c8;have c8b1 : (x266000_1.toList != ([] : List UInt8))=false:=zX.mpr c8;clear c8;(first|rw [c8b0]|(simp only [zG,zH];rw [c8b0])|skip);have H':=zh H;clear H;have hnb9:=NB265_264.out;have hnc9:=NB264_265.out;obtain ⟨hcz10_0,hcz10_1,hfz10_0,hfz10_1⟩:=cB2 BK265.out
     go_wp2
     repeat (go_quiet (fail);try go_wp2)
     go_meet
     case rel=>exact ⟨_,(false),jC,H',⟨by have:=HK1.out;first|omega|exact ye _⟩,⟨jI⟩,⟨jh⟩,⟨jAZ⟩,⟨jr⟩⟩
    rw [if_neg c8] at H;have c8b0 : (x266000_1.toList == ([] : List UInt8))=false:=zY.mpr c8;have c8b1 : (x266000_1.toList != ([] : List UInt8))=true:=zZ.mpr c8;(first|rw [c8b0]|(simp only [zG,zH];rw [c8b0])|skip);have H':=zh H;clear H;have hnb11:=NB265_264.out;have hnc11:=NB264_265.out;obtain ⟨hcz12_0,hcz12_1,hfz12_0,hfz12_1⟩:=cB2 BK265.out
    go_wp2
    repeat (go_quiet (fail);try go_wp2)
    go_meet
    case rel=>exact ⟨_,(!x266001_1),jC,H',⟨by have:=HK1.out;first|omega|exact ye _⟩,⟨jI⟩,⟨jh⟩,⟨jAZ⟩,⟨jr⟩⟩
   case rest =>
    clear HC7
    try clear c1
    try clear p2
    try clear c3 c8 c8b0 c8b1 c9 c11
    try clear hcz10_0 hcz10_1
    try clear hcz12_0 hcz12_1
    try clear hcz3_0 hcz3_1 hcz3_2
    try clear hfz10_0 hfz10_1
    try clear hfz12_0 hfz12_1
    try clear hfz3_0 hfz3_1 hfz3_2
    try clear p2
    obtain ⟨kq,x22_6,rfl,HA,HJ6,HO_5,BK264,BK265,HB⟩:=hcut
    cases kq with
    | zero=>exact absurd HA.out (by simp [F7.j1])
    | succ kj6 =>
     have H:=HA.out;clear HA;simp only [F7.j1] at H
     by_cases c13 : x22_6=true
     ·
      subst c13
      rw [if_pos rfl] at H;replace H:=zT.mp H;obtain ⟨⟨t269,t270,t271⟩,A140,H⟩:=H;have A14:=zh A140;clear A140;replace H:=zT.mp H;obtain ⟨⟨t272,t273,t274⟩,A150,H⟩:=H;have A15:=zh A150;clear A150;replace H:=zT.mp H;obtain ⟨⟨t275,t276,t277,t278,t279⟩,A160,H⟩:=H;have A16:=zh A160;clear A160
      by_cases c17 : x5_1.length<2932031007402
      ·
       rw [if_pos c17] at H
       have LMc17:=zh c17;clear c17;obtain ⟨y280,hy280⟩ : ∃ y_ : List (S43),y_=(x5_1 ++ [(⟨t272,(⟨t275,t276,t277⟩ : S25)⟩ : S43)]):=⟨_,rfl⟩;replace H : (F7.l0 kj6 y280 t278 t279)=some (r1,r2):=by first|(rw [hy280];with_reducible exact H)|(have H2_:=(Option.bind_some _ _).symm.trans H;rw [hy280];with_reducible exact H2_)|(have H2_:=(Option.bind_some _ _).symm.trans H;with_reducible exact H2_)|with_reducible exact H|(rw [hy280];exact H)|exact H
       have Ny280:=zh hy280;clear hy280;have H':=zh H;clear H;have HI265:=zh (show IsS89 w wc gb265 x266000_1 x266001_1 from ⟨BK265.out,GE265.out⟩)
       go_wp2_with (first|(go_at_call 61;(with_reducible refine (Ft.calls kj6  gb265 x266000_1 x266001_1 1 t269 t270 t271 w _ ?side1 ?side2 A14.out).mono ?_);(case side1=>repeat (with_reducible first|exact HI265.out|apply IsS89.alloc|apply IsS89.drewN|apply IsS89.drew|apply IsS89.set_0|apply IsS89.set_1|refine IsS89.far ?_ NB265_264.out _));(case side2=>repeat (with_reducible first|exact HB.out|apply za|apply zb|apply zc|refine zd ?_ (IsS89.ge HI265.out)|refine zd ?_ GE264.out));rintro e w18 ⟨rfl,hi,hb,hk⟩;replace HO_5:=zh (zM (Kd.R_keep (IsS89.apart (show IsS89 w _ gb265 x266000_1 x266001_1 from by repeat (with_reducible first|exact HI265.out|apply IsS89.alloc|apply IsS89.drewN|apply IsS89.drew|apply IsS89.set_0|apply IsS89.set_1|refine IsS89.far ?_ NB265_264.out _)) jI jB) hk (fun _ h=>h.2)) (fun _ h=>h.1));replace BK264:=zh (KeepBut.blk hk (g':=gb264) (o:=.cells #[.int .i64 a0_0,.int .i64 a0_1,.string a0_2] 25 (0,0)) jh NB264_265.out (by simp));replace HB:=zh (hb);replace BK265:=zh ((show _∧_ from hi).1);clear HI265;(try clear hb);(try clear hb2);(try clear hk);(try clear hi);have HI265:=zh (show IsS89 w w18 gb265 t270 t271 from ⟨BK265.out,GE265.out⟩))|(go_at_call 60;(with_reducible refine (F0f.calls  gb265 t270 t271 t269 t272 t273 t274 w _ ?side1 ?side2 A15.out).mono ?_);(case side1=>repeat (with_reducible first|exact HI265.out|apply IsS89.alloc|apply IsS89.drewN|apply IsS89.drew|apply IsS89.set_0|apply IsS89.set_1|refine IsS89.far ?_ NB265_264.out _));(case side2=>repeat (with_reducible first|exact HB.out|apply za|apply zb|apply zc|refine zd ?_ (IsS89.ge HI265.out)|refine zd ?_ GE264.out));rintro e w19 ⟨rfl,hi,hb,hk⟩;replace HO_5:=zh (zM (Kd.R_keep (IsS89.apart (show IsS89 w _ gb265 t270 t271 from by repeat (with_reducible first|exact HI265.out|apply IsS89.alloc|apply IsS89.drewN|apply IsS89.drew|apply IsS89.set_0|apply IsS89.set_1|refine IsS89.far ?_ NB265_264.out _)) jI jB) hk (fun _ h=>h.2)) (fun _ h=>h.1));replace BK264:=zh (KeepBut.blk hk (g':=gb264) (o:=.cells #[.int .i64 a0_0,.int .i64 a0_1,.string a0_2] 25 (0,0)) jh NB264_265.out (by simp));replace HB:=zh (hb);replace BK265:=zh ((show _∧_ from hi).1);clear HI265;(try clear hb);(try clear hb2);(try clear hk);(try clear hi);have HI265:=zh (show IsS89 w w19 gb265 t273 t274 from ⟨BK265.out,GE265.out⟩))|(go_at_call 59;(with_reducible refine (Fg.calls kj6  gb265 t273 t274 t275 t276 t277 t278 t279 w _ ?side1 ?side2 A16.out).mono ?_);(case side1=>repeat (with_reducible first|exact HI265.out|apply IsS89.alloc|apply IsS89.drewN|apply IsS89.drew|apply IsS89.set_0|apply IsS89.set_1|refine IsS89.far ?_ NB265_264.out _));(case side2=>repeat (with_reducible first|exact HB.out|apply za|apply zb|apply zc|refine zd ?_ (IsS89.ge HI265.out)|refine zd ?_ GE264.out));rintro e w20 ⟨rfl,hi,hb,hk⟩;replace HO_5:=zh (zM (Kd.R_keep (IsS89.apart (show IsS89 w _ gb265 t273 t274 from by repeat (with_reducible first|exact HI265.out|apply IsS89.alloc|apply IsS89.drewN|apply IsS89.drew|apply IsS89.set_0|apply IsS89.set_1|refine IsS89.far ?_ NB265_264.out _)) jI jB) hk (fun _ h=>h.2)) (fun _ h=>h.1));replace BK264:=zh (KeepBut.blk hk (g':=gb264) (o:=.cells #[.int .i64 a0_0,.int .i64 a0_1,.string a0_2] 25 (0,0)) jh NB264_265.out (by simp));replace HB:=zh (hb);replace BK265:=zh ((show _∧_ from hi).1);clear HI265;(try clear hb);(try clear hb2);(try clear hk);(try clear hi))|((with_reducible refine yB (b:=.append) (xs:=#[.tmp 23,.tmp 31]) rfl ?_);at_builtin;refine Kd.R_append k43 (w0:=w) w.heap.size rfl (.tmp 23) (.tmp 31) 28 43 (.agg #[(.string ⟨#[]⟩),(.int .i64 0),(.int .i64 0),(.string ⟨#[]⟩)]) 48 rfl Try.underlying28 info43 rfl jB jH u5 x5_1 (⟨t272,(⟨t275,t276,t277⟩ : S25)⟩ : S43) [.string t272,.int .i64 t275,.int .i64 t276,.string t277] (fun _=>True) (fun _=>False) rfl rfl ?aP (fun _ hk=>hk.elim) ?aF ?aO ?aB ?aS ?aL ?_;(case aP=>exact k43_mkM _ _ _ (⟨t272,(⟨t275,t276,t277⟩ : S25)⟩ : S43));(case aB=>exact jr);(case aF=>exact (fun _ _=>trivial));(case aO=>exact jI);(case aS=>exact (zB jr));(case aL=>have:=LMc17.out;omega);intro v281 w21 ho hb hg hat;rw [← Ny280.out] at ho;replace BK264:=zh (yw (g:=gb264) (o:=.cells #[.int .i64 a0_0,.int .i64 a0_1,.string a0_2] 25 (0,0)) jh hg (Kd.R_ne HO_5.out BK264.out jB));replace BK265:=zh (yw (g:=gb265) (o:=.cells #[.string t278,.bool t279] 89 (0,0)) jAZ hg (Kd.R_ne HO_5.out BK265.out jB));replace HB:=zh (hb);have HO282:=zh (ho);clear HO_5 ho hb hg hat))
       repeat (go_quiet (first|(go_at_call 61;(with_reducible refine (Ft.calls kj6  gb265 x266000_1 x266001_1 1 t269 t270 t271 w _ ?side1 ?side2 A14.out).mono ?_);(case side1=>repeat (with_reducible first|exact HI265.out|apply IsS89.alloc|apply IsS89.drewN|apply IsS89.drew|apply IsS89.set_0|apply IsS89.set_1|refine IsS89.far ?_ NB265_264.out _));(case side2=>repeat (with_reducible first|exact HB.out|apply za|apply zb|apply zc|refine zd ?_ (IsS89.ge HI265.out)|refine zd ?_ GE264.out));rintro e w18 ⟨rfl,hi,hb,hk⟩;replace HO_5:=zh (zM (Kd.R_keep (IsS89.apart (show IsS89 w _ gb265 x266000_1 x266001_1 from by repeat (with_reducible first|exact HI265.out|apply IsS89.alloc|apply IsS89.drewN|apply IsS89.drew|apply IsS89.set_0|apply IsS89.set_1|refine IsS89.far ?_ NB265_264.out _)) jI jB) hk (fun _ h=>h.2)) (fun _ h=>h.1));replace BK264:=zh (KeepBut.blk hk (g':=gb264) (o:=.cells #[.int .i64 a0_0,.int .i64 a0_1,.string a0_2] 25 (0,0)) jh NB264_265.out (by simp));replace HB:=zh (hb);replace BK265:=zh ((show _∧_ from hi).1);clear HI265;(try clear hb);(try clear hb2);(try clear hk);(try clear hi);have HI265:=zh (show IsS89 w w18 gb265 t270 t271 from ⟨BK265.out,GE265.out⟩))|(go_at_call 60;(with_reducible refine (F0f.calls  gb265 t270 t271 t269 t272 t273 t274 w _ ?side1 ?side2 A15.out).mono ?_);(case side1=>repeat (with_reducible first|exact HI265.out|apply IsS89.alloc|apply IsS89.drewN|apply IsS89.drew|apply IsS89.set_0|apply IsS89.set_1|refine IsS89.far ?_ NB265_264.out _));(case side2=>repeat (with_reducible first|exact HB.out|apply za|apply zb|apply zc|refine zd ?_ (IsS89.ge HI265.out)|refine zd ?_ GE264.out));rintro e w19 ⟨rfl,hi,hb,hk⟩;replace HO_5:=zh (zM (Kd.R_keep (IsS89.apart (show IsS89 w _ gb265 t270 t271 from by repeat (with_reducible first|exact HI265.out|apply IsS89.alloc|apply IsS89.drewN|apply IsS89.drew|apply IsS89.set_0|apply IsS89.set_1|refine IsS89.far ?_ NB265_264.out _)) jI jB) hk (fun _ h=>h.2)) (fun _ h=>h.1));replace BK264:=zh (KeepBut.blk hk (g':=gb264) (o:=.cells #[.int .i64 a0_0,.int .i64 a0_1,.string a0_2] 25 (0,0)) jh NB264_265.out (by simp));replace HB:=zh (hb);replace BK265:=zh ((show _∧_ from hi).1);clear HI265;(try clear hb);(try clear hb2);(try clear hk);(try clear hi);have HI265:=zh (show IsS89 w w19 gb265 t273 t274 from ⟨BK265.out,GE265.out⟩))|(go_at_call 59;(with_reducible refine (Fg.calls kj6  gb265 t273 t274 t275 t276 t277 t278 t279 w _ ?side1 ?side2 A16.out).mono ?_);(case side1=>repeat (with_reducible first|exact HI265.out|apply IsS89.alloc|apply IsS89.drewN|apply IsS89.drew|apply IsS89.set_0|apply IsS89.set_1|refine IsS89.far ?_ NB265_264.out _));(case side2=>repeat (with_reducible first|exact HB.out|apply za|apply zb|apply zc|refine zd ?_ (IsS89.ge HI265.out)|refine zd ?_ GE264.out));rintro e w20 ⟨rfl,hi,hb,hk⟩;replace HO_5:=zh (zM (Kd.R_keep (IsS89.apart (show IsS89 w _ gb265 t273 t274 from by repeat (with_reducible first|exact HI265.out|apply IsS89.alloc|apply IsS89.drewN|apply IsS89.drew|apply IsS89.set_0|apply IsS89.set_1|refine IsS89.far ?_ NB265_264.out _)) jI jB) hk (fun _ h=>h.2)) (fun _ h=>h.1));replace BK264:=zh (KeepBut.blk hk (g':=gb264) (o:=.cells #[.int .i64 a0_0,.int .i64 a0_1,.string a0_2] 25 (0,0)) jh NB264_265.out (by simp));replace HB:=zh (hb);replace BK265:=zh ((show _∧_ from hi).1);clear HI265;(try clear hb);(try clear hb2);(try clear hk);(try clear hi))|((with_reducible refine yB (b:=.append) (xs:=#[.tmp 23,.tmp 31]) rfl ?_);at_builtin;refine Kd.R_append k43 (w0:=w) w.heap.size rfl (.tmp 23) (.tmp 31) 28 43 (.agg #[(.string ⟨#[]⟩),(.int .i64 0),(.int .i64 0),(.string ⟨#[]⟩)]) 48 rfl Try.underlying28 info43 rfl jB jH u5 x5_1 (⟨t272,(⟨t275,t276,t277⟩ : S25)⟩ : S43) [.string t272,.int .i64 t275,.int .i64 t276,.string t277] (fun _=>True) (fun _=>False) rfl rfl ?aP (fun _ hk=>hk.elim) ?aF ?aO ?aB ?aS ?aL ?_;(case aP=>exact k43_mkM _ _ _ (⟨t272,(⟨t275,t276,t277⟩ : S25)⟩ : S43));(case aB=>exact jr);(case aF=>exact (fun _ _=>trivial));(case aO=>exact jI);(case aS=>exact (zB jr));(case aL=>have:=LMc17.out;omega);intro v281 w21 ho hb hg hat;rw [← Ny280.out] at ho;replace BK264:=zh (yw (g:=gb264) (o:=.cells #[.int .i64 a0_0,.int .i64 a0_1,.string a0_2] 25 (0,0)) jh hg (Kd.R_ne HO_5.out BK264.out jB));replace BK265:=zh (yw (g:=gb265) (o:=.cells #[.string t278,.bool t279] 89 (0,0)) jAZ hg (Kd.R_ne HO_5.out BK265.out jB));replace HB:=zh (hb);have HO282:=zh (ho);clear HO_5 ho hb hg hat));try go_wp2_with (first|(go_at_call 61;(with_reducible refine (Ft.calls kj6  gb265 x266000_1 x266001_1 1 t269 t270 t271 w _ ?side1 ?side2 A14.out).mono ?_);(case side1=>repeat (with_reducible first|exact HI265.out|apply IsS89.alloc|apply IsS89.drewN|apply IsS89.drew|apply IsS89.set_0|apply IsS89.set_1|refine IsS89.far ?_ NB265_264.out _));(case side2=>repeat (with_reducible first|exact HB.out|apply za|apply zb|apply zc|refine zd ?_ (IsS89.ge HI265.out)|refine zd ?_ GE264.out));rintro e w18 ⟨rfl,hi,hb,hk⟩;replace HO_5:=zh (zM (Kd.R_keep (IsS89.apart (show IsS89 w _ gb265 x266000_1 x266001_1 from by repeat (with_reducible first|exact HI265.out|apply IsS89.alloc|apply IsS89.drewN|apply IsS89.drew|apply IsS89.set_0|apply IsS89.set_1|refine IsS89.far ?_ NB265_264.out _)) jI jB) hk (fun _ h=>h.2)) (fun _ h=>h.1));replace BK264:=zh (KeepBut.blk hk (g':=gb264) (o:=.cells #[.int .i64 a0_0,.int .i64 a0_1,.string a0_2] 25 (0,0)) jh NB264_265.out (by simp));replace HB:=zh (hb);replace BK265:=zh ((show _∧_ from hi).1);clear HI265;(try clear hb);(try clear hb2);(try clear hk);(try clear hi);have HI265:=zh (show IsS89 w w18 gb265 t270 t271 from ⟨BK265.out,GE265.out⟩))|(go_at_call 60;(with_reducible refine (F0f.calls  gb265 t270 t271 t269 t272 t273 t274 w _ ?side1 ?side2 A15.out).mono ?_);(case side1=>repeat (with_reducible first|exact HI265.out|apply IsS89.alloc|apply IsS89.drewN|apply IsS89.drew|apply IsS89.set_0|apply IsS89.set_1|refine IsS89.far ?_ NB265_264.out _));(case side2=>repeat (with_reducible first|exact HB.out|apply za|apply zb|apply zc|refine zd ?_ (IsS89.ge HI265.out)|refine zd ?_ GE264.out));rintro e w19 ⟨rfl,hi,hb,hk⟩;replace HO_5:=zh (zM (Kd.R_keep (IsS89.apart (show IsS89 w _ gb265 t270 t271 from by repeat (with_reducible first|exact HI265.out|apply IsS89.alloc|apply IsS89.drewN|apply IsS89.drew|apply IsS89.set_0|apply IsS89.set_1|refine IsS89.far ?_ NB265_264.out _)) jI jB) hk (fun _ h=>h.2)) (fun _ h=>h.1));replace BK264:=zh (KeepBut.blk hk (g':=gb264) (o:=.cells #[.int .i64 a0_0,.int .i64 a0_1,.string a0_2] 25 (0,0)) jh NB264_265.out (by simp));replace HB:=zh (hb);replace BK265:=zh ((show _∧_ from hi).1);clear HI265;(try clear hb);(try clear hb2);(try clear hk);(try clear hi);have HI265:=zh (show IsS89 w w19 gb265 t273 t274 from ⟨BK265.out,GE265.out⟩))|(go_at_call 59;(with_reducible refine (Fg.calls kj6  gb265 t273 t274 t275 t276 t277 t278 t279 w _ ?side1 ?side2 A16.out).mono ?_);(case side1=>repeat (with_reducible first|exact HI265.out|apply IsS89.alloc|apply IsS89.drewN|apply IsS89.drew|apply IsS89.set_0|apply IsS89.set_1|refine IsS89.far ?_ NB265_264.out _));(case side2=>repeat (with_reducible first|exact HB.out|apply za|apply zb|apply zc|refine zd ?_ (IsS89.ge HI265.out)|refine zd ?_ GE264.out));rintro e w20 ⟨rfl,hi,hb,hk⟩;replace HO_5:=zh (zM (Kd.R_keep (IsS89.apart (show IsS89 w _ gb265 t273 t274 from by repeat (with_reducible first|exact HI265.out|apply IsS89.alloc|apply IsS89.drewN|apply IsS89.drew|apply IsS89.set_0|apply IsS89.set_1|refine IsS89.far ?_ NB265_264.out _)) jI jB) hk (fun _ h=>h.2)) (fun _ h=>h.1));replace BK264:=zh (KeepBut.blk hk (g':=gb264) (o:=.cells #[.int .i64 a0_0,.int .i64 a0_1,.string a0_2] 25 (0,0)) jh NB264_265.out (by simp));replace HB:=zh (hb);replace BK265:=zh ((show _∧_ from hi).1);clear HI265;(try clear hb);(try clear hb2);(try clear hk);(try clear hi))|((with_reducible refine yB (b:=.append) (xs:=#[.tmp 23,.tmp 31]) rfl ?_);at_builtin;refine Kd.R_append k43 (w0:=w) w.heap.size rfl (.tmp 23) (.tmp 31) 28 43 (.agg #[(.string ⟨#[]⟩),(.int .i64 0),(.int .i64 0),(.string ⟨#[]⟩)]) 48 rfl Try.underlying28 info43 rfl jB jH u5 x5_1 (⟨t272,(⟨t275,t276,t277⟩ : S25)⟩ : S43) [.string t272,.int .i64 t275,.int .i64 t276,.string t277] (fun _=>True) (fun _=>False) rfl rfl ?aP (fun _ hk=>hk.elim) ?aF ?aO ?aB ?aS ?aL ?_;(case aP=>exact k43_mkM _ _ _ (⟨t272,(⟨t275,t276,t277⟩ : S25)⟩ : S43));(case aB=>exact jr);(case aF=>exact (fun _ _=>trivial));(case aO=>exact jI);(case aS=>exact (zB jr));(case aL=>have:=LMc17.out;omega);intro v281 w21 ho hb hg hat;rw [← Ny280.out] at ho;replace BK264:=zh (yw (g:=gb264) (o:=.cells #[.int .i64 a0_0,.int .i64 a0_1,.string a0_2] 25 (0,0)) jh hg (Kd.R_ne HO_5.out BK264.out jB));replace BK265:=zh (yw (g:=gb265) (o:=.cells #[.string t278,.bool t279] 89 (0,0)) jAZ hg (Kd.R_ne HO_5.out BK265.out jB));replace HB:=zh (hb);have HO282:=zh (ho);clear HO_5 ho hb hg hat)))
       go_roundg kj6
       case measure=>have:=HK1.out;have:=HJ6.out;omega
       case rel=>exact ⟨(y280),(t278),(t279),H',⟨by have:=HK1.out;have:=HJ6.out;omega⟩,⟨by (with_reducible repeat (first|apply zm|apply zn|apply zo));exact HO282.out⟩,⟨jh⟩,⟨jAZ⟩,⟨jr⟩⟩
      rw [if_neg c17] at H;exact absurd H (by simp)
     replace c13:=yb.mpr c13;subst c13;rw [if_neg (show ¬ (false=true) by decide)] at H;simp only [Option.some.injEq,Prod.mk.injEq] at H;obtain ⟨rfl,rfl⟩:=H;have hnb22:=NB265_264.out;have hnc22:=NB264_265.out;obtain ⟨hcz23_0,hcz23_1,hfz23_0,hfz23_1⟩:=cB2 BK265.out
     go_wp2
     repeat (go_quiet (fail);try go_wp2)
     go_ret2
     exact ⟨_,jF,jI,jr⟩

end Go.Proofs.Ytoinoihiknmnmaa.Q
end
section
namespace Go.Proofs.Ytoinoihiknmnmaa.Q
open Go.RowKit Go.Proofs.YtoinoihiknmnmaaW.PrintWords Go.Proofs.YtoinoihiknmnmaaW.PrintLast Go.Proofs.YtoinoihiknmnmaaW.PrintMore
attribute [local go_sem] max2_int min2_int max_two min_two max_three min_three max_four min_four max2_str min2_str str_geq str_gtr str_leq
set_option linter.unusedVariables false
set_option linter.unusedSimpArgs false

def F5.l0 : Nat→List (S43)→Bool→List (S25)→List (S43)→Int→Int→Option ((List (S25))×Bool)
 | 0,_,_,_,_,_,_=>none
 | k+1,x4,x5,x6,x22,x23,x24=>if x24<x23 then (if 0≤x24 then (if x24<(x22.length : Int) then (if x5=true then ((F05.f k ((rd_T43 x22 x24).f0)).bind fun t297=>(if t297=true then (if x24=0 then (if x6.length<4398046511104 then (F5.l0 k x4 true (x6 ++ [(⟨(rd_T43 x22 x24).f1.f0,(rd_T43 x22 x24).f1.f1,(rd_T43 x22 x24).f1.f2⟩ : S25)]) x22 x23 (wrap64 (x24+1))) else (none)) else (if 0≤(wrap64 (x24 - 1)) then (if (wrap64 (x24 - 1))<(x4.length : Int) then (if x6.length<4398046511104 then (F5.l0 k x4 (Op.bytesLess (((rd_T43 x4 (wrap64 (x24 - 1))).f0).toList) (((rd_T43 x22 x24).f0).toList)) (x6 ++ [(⟨(rd_T43 x22 x24).f1.f0,(rd_T43 x22 x24).f1.f1,(rd_T43 x22 x24).f1.f2⟩ : S25)]) x22 x23 (wrap64 (x24+1))) else (none)) else (none)) else (none))) else (if x6.length<4398046511104 then (F5.l0 k x4 false (x6 ++ [(⟨(rd_T43 x22 x24).f1.f0,(rd_T43 x22 x24).f1.f1,(rd_T43 x22 x24).f1.f2⟩ : S25)]) x22 x23 (wrap64 (x24+1))) else (none)))) else (if x6.length<4398046511104 then (F5.l0 k x4 false (x6 ++ [(⟨(rd_T43 x22 x24).f1.f0,(rd_T43 x22 x24).f1.f1,(rd_T43 x22 x24).f1.f2⟩ : S25)]) x22 x23 (wrap64 (x24+1))) else (none))) else (none)) else (none)) else (some (x6,x5))
def F5.f (k : Nat) (a0_0 : Int) (a0_1 : Int) (a0_2 : ByteArray) : Option ((List (S25))×Bool):=if a0_0=4 then ((Fe.f k a0_0 a0_1 a0_2).bind fun bt284=>(some (bt284.1,bt284.2))) else ((F7.f k a0_0 a0_1 a0_2).bind fun bt288=>(F5.l0 k bt288.1 bt288.2 (([] : List (S25))) bt288.1 (bt288.1.length : Int) 0))
theorem F5.mono_l : ∀ k,(∀ y0 y1 y2 y3 y4 y5,LeO (F5.l0 k y0 y1 y2 y3 y4 y5) (F5.l0 (k+1) y0 y1 y2 y3 y4 y5))
 | 0=>fun _ _ _ _ _ _ r h=>by simp [F5.l0] at h
 | k+1=>by
  have ih0:=F5.mono_l k;intro y0 y1 y2 y3 y4 y5;unfold F5.l0
  repeat' first|(with_reducible first|exact ih0 _ _ _ _ _ _|exact F05.mono _ _|exact Fe.mono _ _ _ _|exact F7.mono _ _ _ _|exact zQ _|exact zN _|refine zP ?_ ?_|refine zO ?_ (fun _=>?_))|refine zP ?_ ?_|refine zO ?_ (fun _=>?_)
theorem F5.mono : ∀ a0 a1 a2 k,LeO (F5.f k a0 a1 a2) (F5.f (k+1) a0 a1 a2):=by
 intro a0 a1 a2 k;have ih0:=F5.mono_l k;unfold F5.f
 repeat' first|(with_reducible first|exact ih0 _ _ _ _ _ _|exact F05.mono _ _|exact Fe.mono _ _ _ _|exact F7.mono _ _ _ _|exact zQ _|exact zN _|refine zP ?_ ?_|refine zO ?_ (fun _=>?_))|refine zP ?_ ?_|refine zO ?_ (fun _=>?_)
set_option maxHeartbeats 8000000 in
set_option maxRecDepth 100000 in
theorem F5.calls (k : Nat) (a0_0 : Int) (a0_1 : Int) (a0_2 : ByteArray) (r1 : List (S25)) (r2 : Bool) (w : World) (h : F5.f k a0_0 a0_1 a0_2=some (r1,r2)) :
  Calls Try.prog 71 #[.agg #[.int .i64 a0_0,.int .i64 a0_1,.string a0_2]] w fun e w' => ∃ v0_ : Value,e = .returned (.tuple #[v0_,.bool r2])∧Kd.R k25 25 w' w.heap.size (fun _=>True) v0_ r1∧Below w.heap.size w w':=by
 have hu25:=Try.underlying25;have hu43:=Try.underlying43;have HB:=zh (Below.refl w.heap.size w);have H : (if a0_0=4 then ((Fe.f k a0_0 a0_1 a0_2).bind fun bt284=>(some (bt284.1,bt284.2))) else ((F7.f k a0_0 a0_1 a0_2).bind fun bt288=>(F5.l0 k bt288.1 bt288.2 (([] : List (S25))) bt288.1 (bt288.1.length : Int) 0)))=some (r1,r2):=h;clear h
 by_cases c2 : a0_0=4
 ·
  rw [if_pos c2] at H
  have c2b0 : (a0_0 == 4)=true:=ya.mpr c2;have c2b1 : (a0_0 != 4)=false:=zX.mpr c2;clear c2;replace H:=zT.mp H;obtain ⟨⟨t284,t287⟩,A30,H⟩:=H;have A3:=zh A30;clear A30;simp only [Option.some.injEq,Prod.mk.injEq] at H;obtain ⟨rfl,rfl⟩:=H
  go_enter Try.func71,Try.ntmps71
  go_wp2_with (first|((with_reducible refine zK (N:=1) rfl ?_);refine zI ?hg (N:=1) ?hd (cs:=#[.int .i64 a0_0,.int .i64 a0_1,.string a0_2]) (t:=25) ?hr ?_;(case hd=>rfl);(case hg=>rfl);(case hr=>go_simp <;> rfl);intro gb283 hg w4 hbox hb;have BK283:=zh (hbox);have hH_:=cH jG hb hg;have GW283:=zh hH_.1;have GE283:=GW283;replace HB:=zh hH_.2;clear hb hbox hg hH_;obtain ⟨hcz5_0,hcz5_1,hcz5_2,hfz5_0,hfz5_1,hfz5_2⟩:=cB3 BK283.out)|(go_at_call 36;(with_reducible refine (Fe.calls k  a0_0 a0_1 a0_2 t284 t287 _ A3.out).mono ?_);rintro e w6 ⟨v285,rfl,ho0,hb⟩;have HO286:=zh (yy (Kd.R_newB ho0 (g:=gb283) (o:=.cells #[.int .i64 a0_0,.int .i64 a0_1,.string a0_2] 25 (0,0)) jR) (zB jS));replace BK283:=zh (cD BK283.out jR hb);replace HB:=zh (zC jS hb);(try clear hb);(try clear hb2);(try clear hk);(try clear hi);(try clear ho0)))
  repeat (go_quiet (first|((with_reducible refine zK (N:=1) rfl ?_);refine zI ?hg (N:=1) ?hd (cs:=#[.int .i64 a0_0,.int .i64 a0_1,.string a0_2]) (t:=25) ?hr ?_;(case hd=>rfl);(case hg=>rfl);(case hr=>go_simp <;> rfl);intro gb283 hg w4 hbox hb;have BK283:=zh (hbox);have hH_:=cH jG hb hg;have GW283:=zh hH_.1;have GE283:=GW283;replace HB:=zh hH_.2;clear hb hbox hg hH_;obtain ⟨hcz5_0,hcz5_1,hcz5_2,hfz5_0,hfz5_1,hfz5_2⟩:=cB3 BK283.out)|(go_at_call 36;(with_reducible refine (Fe.calls k  a0_0 a0_1 a0_2 t284 t287 _ A3.out).mono ?_);rintro e w6 ⟨v285,rfl,ho0,hb⟩;have HO286:=zh (yy (Kd.R_newB ho0 (g:=gb283) (o:=.cells #[.int .i64 a0_0,.int .i64 a0_1,.string a0_2] 25 (0,0)) jR) (zB jS));replace BK283:=zh (cD BK283.out jR hb);replace HB:=zh (zC jS hb);(try clear hb);(try clear hb2);(try clear hk);(try clear hi);(try clear ho0)));try go_wp2_with (first|((with_reducible refine zK (N:=1) rfl ?_);refine zI ?hg (N:=1) ?hd (cs:=#[.int .i64 a0_0,.int .i64 a0_1,.string a0_2]) (t:=25) ?hr ?_;(case hd=>rfl);(case hg=>rfl);(case hr=>go_simp <;> rfl);intro gb283 hg w4 hbox hb;have BK283:=zh (hbox);have hH_:=cH jG hb hg;have GW283:=zh hH_.1;have GE283:=GW283;replace HB:=zh hH_.2;clear hb hbox hg hH_;obtain ⟨hcz5_0,hcz5_1,hcz5_2,hfz5_0,hfz5_1,hfz5_2⟩:=cB3 BK283.out)|(go_at_call 36;(with_reducible refine (Fe.calls k  a0_0 a0_1 a0_2 t284 t287 _ A3.out).mono ?_);rintro e w6 ⟨v285,rfl,ho0,hb⟩;have HO286:=zh (yy (Kd.R_newB ho0 (g:=gb283) (o:=.cells #[.int .i64 a0_0,.int .i64 a0_1,.string a0_2] 25 (0,0)) jR) (zB jS));replace BK283:=zh (cD BK283.out jR hb);replace HB:=zh (zC jS hb);(try clear hb);(try clear hb2);(try clear hk);(try clear hi);(try clear ho0))))
  go_ret2
  exact ⟨_,jF,by (with_reducible repeat (first|apply zm|apply zn|apply zo));exact zM HO286.out (fun _ hk=>trivial),jS⟩
 rw [if_neg c2] at H;have c2b0 : (a0_0 == 4)=false:=zY.mpr c2;have c2b1 : (a0_0 != 4)=true:=zZ.mpr c2;replace H:=zT.mp H;obtain ⟨⟨t288,t291⟩,A70,H⟩:=H;have A7:=zh A70;clear A70;obtain ⟨y292,hy292⟩ : ∃ y_ : List (S25),y_=(([] : List (S25))):=⟨_,rfl⟩;replace H : (F5.l0 k t288 t291 y292 t288 (t288.length : Int) 0)=some (r1,r2):=by first|(rw [hy292];with_reducible exact H)|(have H2_:=(Option.bind_some _ _).symm.trans H;rw [hy292];with_reducible exact H2_)|(have H2_:=(Option.bind_some _ _).symm.trans H;with_reducible exact H2_)|with_reducible exact H|(rw [hy292];exact H)|exact H
 have Ny292:=zh hy292;clear hy292;have H':=zh H;clear H
 go_enter Try.func71,Try.ntmps71
 go_wp2_with (first|((with_reducible refine zK (N:=1) rfl ?_);refine zI ?hg (N:=1) ?hd (cs:=#[.int .i64 a0_0,.int .i64 a0_1,.string a0_2]) (t:=25) ?hr ?_;(case hd=>rfl);(case hg=>rfl);(case hr=>go_simp <;> rfl);intro gb283 hg w8 hbox hb;have BK283:=zh (hbox);have hH_:=cH jG hb hg;have GW283:=zh hH_.1;have GE283:=GW283;replace HB:=zh hH_.2;clear hb hbox hg hH_;obtain ⟨hcz9_0,hcz9_1,hcz9_2,hfz9_0,hfz9_1,hfz9_2⟩:=cB3 BK283.out)|(go_at_call 37;(with_reducible refine (F7.calls k  a0_0 a0_1 a0_2 t288 t291 _ A7.out).mono ?_);rintro e w10 ⟨v289,rfl,ho0,hb⟩;have HO290:=zh (yy ho0 (zB jS));replace BK283:=zh (cD BK283.out jR hb);replace HB:=zh (zC jS hb);(try clear hb);(try clear hb2);(try clear hk);(try clear hi);(try clear ho0))|((with_reducible refine zK (N:=21) rfl ?_);refine Kd.R_lit k25 _ 25 ?hg (N:=21) ?hd (xs:=([] : List (S25))) (inner:=[]) (ok:=fun _=>True) (okp:=fun _=>True) ?hr ?hp (fun _ hk=>hk) trivial (Below.refl _ _) (ye _) (by simp) ?_;(case hd=>rfl);(case hg=>rfl);(case hr=>go_simp <;> rfl);(case hp=>exact (Reps.none _ _));intro v293 w11 ho12 hb hg_ hnew_;clear hg_ hnew_;(first|rw [← Ny292.out] at ho12|(simp only [Int.reduceToNat] at ho12;rw [← Ny292.out] at ho12));replace HO290:=zh (yg jBO hb);have HO294:=zh (yy (Kd.R_newB ho12 (g:=gb283) (o:=.cells #[.int .i64 a0_0,.int .i64 a0_1,.string a0_2] 25 (0,0)) jR) (zB jS));replace BK283:=zh (cD BK283.out jR hb);replace HB:=zh (zC jS hb);clear hb ho12;obtain ⟨Ao13,co13,eo13⟩:=yk HO290.out;subst eo13))
 repeat (go_quiet (first|((with_reducible refine zK (N:=1) rfl ?_);refine zI ?hg (N:=1) ?hd (cs:=#[.int .i64 a0_0,.int .i64 a0_1,.string a0_2]) (t:=25) ?hr ?_;(case hd=>rfl);(case hg=>rfl);(case hr=>go_simp <;> rfl);intro gb283 hg w8 hbox hb;have BK283:=zh (hbox);have hH_:=cH jG hb hg;have GW283:=zh hH_.1;have GE283:=GW283;replace HB:=zh hH_.2;clear hb hbox hg hH_;obtain ⟨hcz9_0,hcz9_1,hcz9_2,hfz9_0,hfz9_1,hfz9_2⟩:=cB3 BK283.out)|(go_at_call 37;(with_reducible refine (F7.calls k  a0_0 a0_1 a0_2 t288 t291 _ A7.out).mono ?_);rintro e w10 ⟨v289,rfl,ho0,hb⟩;have HO290:=zh (yy ho0 (zB jS));replace BK283:=zh (cD BK283.out jR hb);replace HB:=zh (zC jS hb);(try clear hb);(try clear hb2);(try clear hk);(try clear hi);(try clear ho0))|((with_reducible refine zK (N:=21) rfl ?_);refine Kd.R_lit k25 _ 25 ?hg (N:=21) ?hd (xs:=([] : List (S25))) (inner:=[]) (ok:=fun _=>True) (okp:=fun _=>True) ?hr ?hp (fun _ hk=>hk) trivial (Below.refl _ _) (ye _) (by simp) ?_;(case hd=>rfl);(case hg=>rfl);(case hr=>go_simp <;> rfl);(case hp=>exact (Reps.none _ _));intro v293 w11 ho12 hb hg_ hnew_;clear hg_ hnew_;(first|rw [← Ny292.out] at ho12|(simp only [Int.reduceToNat] at ho12;rw [← Ny292.out] at ho12));replace HO290:=zh (yg jBO hb);have HO294:=zh (yy (Kd.R_newB ho12 (g:=gb283) (o:=.cells #[.int .i64 a0_0,.int .i64 a0_1,.string a0_2] 25 (0,0)) jR) (zB jS));replace BK283:=zh (cD BK283.out jR hb);replace HB:=zh (zC jS hb);clear hb ho12;obtain ⟨Ao13,co13,eo13⟩:=yk HO290.out;subst eo13));try go_wp2_with (first|((with_reducible refine zK (N:=1) rfl ?_);refine zI ?hg (N:=1) ?hd (cs:=#[.int .i64 a0_0,.int .i64 a0_1,.string a0_2]) (t:=25) ?hr ?_;(case hd=>rfl);(case hg=>rfl);(case hr=>go_simp <;> rfl);intro gb283 hg w8 hbox hb;have BK283:=zh (hbox);have hH_:=cH jG hb hg;have GW283:=zh hH_.1;have GE283:=GW283;replace HB:=zh hH_.2;clear hb hbox hg hH_;obtain ⟨hcz9_0,hcz9_1,hcz9_2,hfz9_0,hfz9_1,hfz9_2⟩:=cB3 BK283.out)|(go_at_call 37;(with_reducible refine (F7.calls k  a0_0 a0_1 a0_2 t288 t291 _ A7.out).mono ?_);rintro e w10 ⟨v289,rfl,ho0,hb⟩;have HO290:=zh (yy ho0 (zB jS));replace BK283:=zh (cD BK283.out jR hb);replace HB:=zh (zC jS hb);(try clear hb);(try clear hb2);(try clear hk);(try clear hi);(try clear ho0))|((with_reducible refine zK (N:=21) rfl ?_);refine Kd.R_lit k25 _ 25 ?hg (N:=21) ?hd (xs:=([] : List (S25))) (inner:=[]) (ok:=fun _=>True) (okp:=fun _=>True) ?hr ?hp (fun _ hk=>hk) trivial (Below.refl _ _) (ye _) (by simp) ?_;(case hd=>rfl);(case hg=>rfl);(case hr=>go_simp <;> rfl);(case hp=>exact (Reps.none _ _));intro v293 w11 ho12 hb hg_ hnew_;clear hg_ hnew_;(first|rw [← Ny292.out] at ho12|(simp only [Int.reduceToNat] at ho12;rw [← Ny292.out] at ho12));replace HO290:=zh (yg jBO hb);have HO294:=zh (yy (Kd.R_newB ho12 (g:=gb283) (o:=.cells #[.int .i64 a0_0,.int .i64 a0_1,.string a0_2] 25 (0,0)) jR) (zB jS));replace BK283:=zh (cD BK283.out jR hb);replace HB:=zh (zC jS hb);clear hb ho12;obtain ⟨Ao13,co13,eo13⟩:=yk HO290.out;subst eo13)))
 go_loopg [5,6,24] k (fun kq v5 v6 v24 w' => ∃ (x5_1 : Bool) (x6_1 : List (S25)) (x24_1 : Int),v5 = .bool x5_1∧v24 = .int .i64 x24_1∧Aside0 (F5.l0 kq t288 x5_1 x6_1 t288 (t288.length : Int) x24_1=some (r1,r2))∧Aside0 (kq≤k)∧Aside0 (Kd.R k43 43 w' w.heap.size (fun _=>True) (.slice Ao13 t288.length co13) t288)∧Aside0 (Kd.R k25 25 w' w.heap.size (fun k_=>k_≠gb283) v6 x6_1)∧Aside0 (Kd.R k43 43 w' w.heap.size (fun _=>True) (.slice Ao13 t288.length co13) t288)∧Aside0 (w'.heap[gb283]? = some (.cells #[.int .i64 a0_0,.int .i64 a0_1,.string a0_2] 25 (0,0)))∧Aside0 (Below w.heap.size w w'))
 case atStart=>exact ⟨(t291),(y292),(0),jC,jC,H',⟨ye _⟩,⟨jBO⟩,⟨by (with_reducible repeat (first|apply zm|apply zn|apply zo));exact zM HO294.out (fun _ hk=>hk.2)⟩,⟨jBO⟩,⟨jR⟩,⟨jS⟩⟩
 case round =>
  clear H'
  try clear c2 c2b0 c2b1
  try clear p2
  try clear c7
  try clear hcz5_0 hcz5_1 hcz5_2
  try clear hcz9_0 hcz9_1 hcz9_2
  try clear hfz5_0 hfz5_1 hfz5_2
  try clear hfz9_0 hfz9_1 hfz9_2
  obtain ⟨x5_1,x6_1,x24_1,rfl,rfl,HA,HK1,HO_4,HO_6,HO_22,BK283,HB⟩:=hrel
  cases gk with
  | zero=>exact absurd HA.out (by simp [F5.l0])
  | succ k1 =>
   have H:=HA.out;clear HA;simp only [F5.l0] at H
   by_cases c14 : x24_1<(t288.length : Int)
   ·
    rw [if_pos c14] at H
    have c14b0 : decide (x24_1<(t288.length : Int))=true:=decide_eq_true c14;clear c14
    by_cases c15 : 0≤x24_1
    ·
     rw [if_pos c15] at H
     have c15b0 : decide (0≤x24_1)=true:=decide_eq_true c15;clear c15
     by_cases c16 : x24_1<(t288.length : Int)
     ·
      rw [if_pos c16] at H
      have c16b0 : decide (x24_1<(t288.length : Int))=true:=decide_eq_true c16;clear c16
      by_cases c17 : x5_1=true
      ·
       subst c17
       rw [if_pos rfl] at H;replace H:=zT.mp H;obtain ⟨t297,A180,H⟩:=H;have A18:=zh A180;clear A180
       by_cases c19 : t297=true
       ·
        subst c19
        rw [if_pos rfl] at H
        by_cases c20 : x24_1=0
        ·
         rw [if_pos c20] at H
         have c20b0 : (x24_1 == 0)=true:=ya.mpr c20;have c20b1 : (x24_1 != 0)=false:=zX.mpr c20;clear c20
         by_cases c21 : x6_1.length<4398046511104
         ·
          rw [if_pos c21] at H
          have LMc21:=zh c21;clear c21;obtain ⟨y298,hy298⟩ : ∃ y_ : List (S25),y_=(x6_1 ++ [(⟨(rd_T43 t288 x24_1).f1.f0,(rd_T43 t288 x24_1).f1.f1,(rd_T43 t288 x24_1).f1.f2⟩ : S25)]):=⟨_,rfl⟩;replace H : (F5.l0 k1 t288 true y298 t288 (t288.length : Int) (wrap64 (x24_1+1)))=some (r1,r2):=by first|(rw [hy298];with_reducible exact H)|(have H2_:=(Option.bind_some _ _).symm.trans H;rw [hy298];with_reducible exact H2_)|(have H2_:=(Option.bind_some _ _).symm.trans H;with_reducible exact H2_)|with_reducible exact H|(rw [hy298];exact H)|exact H
          have Ny298:=zh hy298;clear hy298;have H':=zh H;clear H;have p295 : 0≤(x24_1 : Int):=zy jE;have q295 : x24_1<(t288.length : Int):=zy jE;obtain ⟨ad295,e295,hx295_0,hx295_1,hx295_2,hx295_3⟩:=at_T43 (yh HO_22.out).2.2 x24_1 p295 q295
          cases e295
          replace p295:=eq_true p295;replace q295:=eq_true q295
          go_wp2_with (first|((with_reducible refine zK (N:=8) rfl ?_);refine zI ?hg (N:=8) ?hd (cs:=#[.string (⟨#[]⟩ : ByteArray),.int .i64 0,.int .i64 0,.string (⟨#[]⟩ : ByteArray)]) (t:=43) ?hr ?_;(case hd=>rfl);(case hg=>rfl);(case hr=>go_simp <;> rfl);intro gb296 hg w22 hbox hb;replace HO_4:=zh (yg (Kd.R_elderB jQ gb296 (Nat.le_of_eq hg.symm)) hb);replace HO_6:=zh (yg jk hb);replace HO_22:=zh (yg (Kd.R_elderB jAE gb296 (Nat.le_of_eq hg.symm)) hb);have BK296:=zh (hbox);have hH_:=cH jS hb hg;have GW296:=zh hH_.1;have GE296:=GW296;replace HB:=zh hH_.2;have NB283_296:=zh ((jAF : gb283≠gb296));have NB296_283:=zh NB283_296.out.symm;replace BK283:=zh (cD BK283.out jR hb);clear hb hbox hg hH_;have hnb23:=NB296_283.out;have hnc23:=NB283_296.out;obtain ⟨hcz24_0,hcz24_1,hcz24_2,hcz24_3,hfz24_0,hfz24_1,hfz24_2,hfz24_3⟩:=cB4 BK296.out)|(go_at_call 25;(with_reducible refine (F05.calls k1  ((rd_T43 t288 x24_1).f0) true _ A18.out).mono ?_);rintro e w' ⟨rfl,⟨nd,rfl⟩⟩;(try first|exact ⟨rfl,_,World.drewN_drewN _ _ _⟩|exact ⟨rfl,_,Eq.trans (World.drewN_drewN _ _ _) (congrArg (World.drewN _) (Nat.add_assoc _ _ _))⟩))|((with_reducible refine yB (b:=.append) (xs:=#[.tmp 50,.tmp 53]) rfl ?_);at_builtin;refine Kd.R_append k25 (w0:=w) w.heap.size rfl (.tmp 50) (.tmp 53) 34 25 (.agg #[(.int .i64 0),(.int .i64 0),(.string ⟨#[]⟩)]) 32 rfl Try.underlying34 info25 rfl jB jH u6 x6_1 (⟨(rd_T43 t288 x24_1).f1.f0,(rd_T43 t288 x24_1).f1.f1,(rd_T43 t288 x24_1).f1.f2⟩ : S25) [.int .i64 ((rd_T43 t288 x24_1).f1.f0),.int .i64 ((rd_T43 t288 x24_1).f1.f1),.string ((rd_T43 t288 x24_1).f1.f2)] (fun k_=>k_≠gb283) (fun _=>False) rfl jAA ?aP (fun _ hk=>hk.elim) ?aF ?aO ?aB ?aS ?aL ?_;(case aP=>exact k25_mkM _ _ _ (⟨(rd_T43 t288 x24_1).f1.f0,(rd_T43 t288 x24_1).f1.f1,(rd_T43 t288 x24_1).f1.f2⟩ : S25));(case aB=>exact jW);(case aF=>exact (fun k_ hk=>Kd.freshB (g:=gb283) (o:=.cells #[.int .i64 a0_0,.int .i64 a0_1,.string a0_2] 25 (0,0)) je k_ hk));(case aO=>exact jAG);(case aS=>exact (zB jW));(case aL=>have:=LMc21.out;omega);intro v299 w25 ho hb hg hat;rw [← Ny298.out] at ho;replace HO_4:=zh (Kd.R_over' jAH (Kd.R_typed jf) jB hg);replace HO_22:=zh (Kd.R_over' jAI (Kd.R_typed jf) jB hg);replace BK283:=zh (yw (g:=gb283) (o:=.cells #[.int .i64 a0_0,.int .i64 a0_1,.string a0_2] 25 (0,0)) je hg (yv HO_6.out (fun _ hk=>hk)));replace BK296:=zh (yw (g:=gb296) (o:=.cells #[.string ((rd_T43 t288 x24_1).f0),.int .i64 ((rd_T43 t288 x24_1).f1.f0),.int .i64 ((rd_T43 t288 x24_1).f1.f1),.string ((rd_T43 t288 x24_1).f1.f2)] 43 (0,0)) jAJ hg (Kd.R_ne HO_6.out BK296.out jB));replace HB:=zh (hb);have HO300:=zh (ho);clear HO_6 ho hb hg hat))
          repeat (go_quiet (first|((with_reducible refine zK (N:=8) rfl ?_);refine zI ?hg (N:=8) ?hd (cs:=#[.string (⟨#[]⟩ : ByteArray),.int .i64 0,.int .i64 0,.string (⟨#[]⟩ : ByteArray)]) (t:=43) ?hr ?_;(case hd=>rfl);(case hg=>rfl);(case hr=>go_simp <;> rfl);intro gb296 hg w22 hbox hb;replace HO_4:=zh (yg (Kd.R_elderB jQ gb296 (Nat.le_of_eq hg.symm)) hb);replace HO_6:=zh (yg jk hb);replace HO_22:=zh (yg (Kd.R_elderB jAE gb296 (Nat.le_of_eq hg.symm)) hb);have BK296:=zh (hbox);have hH_:=cH jS hb hg;have GW296:=zh hH_.1;have GE296:=GW296;replace HB:=zh hH_.2;have NB283_296:=zh ((jAF : gb283≠gb296));have NB296_283:=zh NB283_296.out.symm;replace BK283:=zh (cD BK283.out jR hb);clear hb hbox hg hH_;have hnb23:=NB296_283.out;have hnc23:=NB283_296.out;obtain ⟨hcz24_0,hcz24_1,hcz24_2,hcz24_3,hfz24_0,hfz24_1,hfz24_2,hfz24_3⟩:=cB4 BK296.out)|(go_at_call 25;(with_reducible refine (F05.calls k1  ((rd_T43 t288 x24_1).f0) true _ A18.out).mono ?_);rintro e w' ⟨rfl,⟨nd,rfl⟩⟩;(try first|exact ⟨rfl,_,World.drewN_drewN _ _ _⟩|exact ⟨rfl,_,Eq.trans (World.drewN_drewN _ _ _) (congrArg (World.drewN _) (Nat.add_assoc _ _ _))⟩))|((with_reducible refine yB (b:=.append) (xs:=#[.tmp 50,.tmp 53]) rfl ?_);at_builtin;refine Kd.R_append k25 (w0:=w) w.heap.size rfl (.tmp 50) (.tmp 53) 34 25 (.agg #[(.int .i64 0),(.int .i64 0),(.string ⟨#[]⟩)]) 32 rfl Try.underlying34 info25 rfl jB jH u6 x6_1 (⟨(rd_T43 t288 x24_1).f1.f0,(rd_T43 t288 x24_1).f1.f1,(rd_T43 t288 x24_1).f1.f2⟩ : S25) [.int .i64 ((rd_T43 t288 x24_1).f1.f0),.int .i64 ((rd_T43 t288 x24_1).f1.f1),.string ((rd_T43 t288 x24_1).f1.f2)] (fun k_=>k_≠gb283) (fun _=>False) rfl jAA ?aP (fun _ hk=>hk.elim) ?aF ?aO ?aB ?aS ?aL ?_;(case aP=>exact k25_mkM _ _ _ (⟨(rd_T43 t288 x24_1).f1.f0,(rd_T43 t288 x24_1).f1.f1,(rd_T43 t288 x24_1).f1.f2⟩ : S25));(case aB=>exact jW);(case aF=>exact (fun k_ hk=>Kd.freshB (g:=gb283) (o:=.cells #[.int .i64 a0_0,.int .i64 a0_1,.string a0_2] 25 (0,0)) je k_ hk));(case aO=>exact jAG);(case aS=>exact (zB jW));(case aL=>have:=LMc21.out;omega);intro v299 w25 ho hb hg hat;rw [← Ny298.out] at ho;replace HO_4:=zh (Kd.R_over' jAH (Kd.R_typed jf) jB hg);replace HO_22:=zh (Kd.R_over' jAI (Kd.R_typed jf) jB hg);replace BK283:=zh (yw (g:=gb283) (o:=.cells #[.int .i64 a0_0,.int .i64 a0_1,.string a0_2] 25 (0,0)) je hg (yv HO_6.out (fun _ hk=>hk)));replace BK296:=zh (yw (g:=gb296) (o:=.cells #[.string ((rd_T43 t288 x24_1).f0),.int .i64 ((rd_T43 t288 x24_1).f1.f0),.int .i64 ((rd_T43 t288 x24_1).f1.f1),.string ((rd_T43 t288 x24_1).f1.f2)] 43 (0,0)) jAJ hg (Kd.R_ne HO_6.out BK296.out jB));replace HB:=zh (hb);have HO300:=zh (ho);clear HO_6 ho hb hg hat));try go_wp2_with (first|((with_reducible refine zK (N:=8) rfl ?_);refine zI ?hg (N:=8) ?hd (cs:=#[.string (⟨#[]⟩ : ByteArray),.int .i64 0,.int .i64 0,.string (⟨#[]⟩ : ByteArray)]) (t:=43) ?hr ?_;(case hd=>rfl);(case hg=>rfl);(case hr=>go_simp <;> rfl);intro gb296 hg w22 hbox hb;replace HO_4:=zh (yg (Kd.R_elderB jQ gb296 (Nat.le_of_eq hg.symm)) hb);replace HO_6:=zh (yg jk hb);replace HO_22:=zh (yg (Kd.R_elderB jAE gb296 (Nat.le_of_eq hg.symm)) hb);have BK296:=zh (hbox);have hH_:=cH jS hb hg;have GW296:=zh hH_.1;have GE296:=GW296;replace HB:=zh hH_.2;have NB283_296:=zh ((jAF : gb283≠gb296));have NB296_283:=zh NB283_296.out.symm;replace BK283:=zh (cD BK283.out jR hb);clear hb hbox hg hH_;have hnb23:=NB296_283.out;have hnc23:=NB283_296.out;obtain ⟨hcz24_0,hcz24_1,hcz24_2,hcz24_3,hfz24_0,hfz24_1,hfz24_2,hfz24_3⟩:=cB4 BK296.out)|(go_at_call 25;(with_reducible refine (F05.calls k1  ((rd_T43 t288 x24_1).f0) true _ A18.out).mono ?_);rintro e w' ⟨rfl,⟨nd,rfl⟩⟩;(try first|exact ⟨rfl,_,World.drewN_drewN _ _ _⟩|exact ⟨rfl,_,Eq.trans (World.drewN_drewN _ _ _) (congrArg (World.drewN _) (Nat.add_assoc _ _ _))⟩))|((with_reducible refine yB (b:=.append) (xs:=#[.tmp 50,.tmp 53]) rfl ?_);at_builtin;refine Kd.R_append k25 (w0:=w) w.heap.size rfl (.tmp 50) (.tmp 53) 34 25 (.agg #[(.int .i64 0),(.int .i64 0),(.string ⟨#[]⟩)]) 32 rfl Try.underlying34 info25 rfl jB jH u6 x6_1 (⟨(rd_T43 t288 x24_1).f1.f0,(rd_T43 t288 x24_1).f1.f1,(rd_T43 t288 x24_1).f1.f2⟩ : S25) [.int .i64 ((rd_T43 t288 x24_1).f1.f0),.int .i64 ((rd_T43 t288 x24_1).f1.f1),.string ((rd_T43 t288 x24_1).f1.f2)] (fun k_=>k_≠gb283) (fun _=>False) rfl jAA ?aP (fun _ hk=>hk.elim) ?aF ?aO ?aB ?aS ?aL ?_;(case aP=>exact k25_mkM _ _ _ (⟨(rd_T43 t288 x24_1).f1.f0,(rd_T43 t288 x24_1).f1.f1,(rd_T43 t288 x24_1).f1.f2⟩ : S25));(case aB=>exact jW);(case aF=>exact (fun k_ hk=>Kd.freshB (g:=gb283) (o:=.cells #[.int .i64 a0_0,.int .i64 a0_1,.string a0_2] 25 (0,0)) je k_ hk));(case aO=>exact jAG);(case aS=>exact (zB jW));(case aL=>have:=LMc21.out;omega);intro v299 w25 ho hb hg hat;rw [← Ny298.out] at ho;replace HO_4:=zh (Kd.R_over' jAH (Kd.R_typed jf) jB hg);replace HO_22:=zh (Kd.R_over' jAI (Kd.R_typed jf) jB hg);replace BK283:=zh (yw (g:=gb283) (o:=.cells #[.int .i64 a0_0,.int .i64 a0_1,.string a0_2] 25 (0,0)) je hg (yv HO_6.out (fun _ hk=>hk)));replace BK296:=zh (yw (g:=gb296) (o:=.cells #[.string ((rd_T43 t288 x24_1).f0),.int .i64 ((rd_T43 t288 x24_1).f1.f0),.int .i64 ((rd_T43 t288 x24_1).f1.f1),.string ((rd_T43 t288 x24_1).f1.f2)] 43 (0,0)) jAJ hg (Kd.R_ne HO_6.out BK296.out jB));replace HB:=zh (hb);have HO300:=zh (ho);clear HO_6 ho hb hg hat)))
          go_roundg k1
          case measure=>have:=HK1.out;omega
          case rel=>exact ⟨(true),(y298),(wrap64 (x24_1+1)),jC,jC,H',⟨jZ⟩,⟨jBi⟩,⟨by (with_reducible repeat (first|apply zm|apply zn|apply zo));exact HO300.out⟩,⟨jBk⟩,⟨jR⟩,⟨jW⟩⟩
         rw [if_neg c21] at H;exact absurd H (by simp)
        rw [if_neg c20] at H;have c20b0 : (x24_1 == 0)=false:=zY.mpr c20;have c20b1 : (x24_1 != 0)=true:=zZ.mpr c20;obtain ⟨ji26,hji26⟩ : ∃ j_ : Int,(wrap64 (x24_1 - 1))=j_:=⟨_,rfl⟩;replace H : (if 0≤(ji26) then (if (ji26)<(t288.length : Int) then (if x6_1.length<4398046511104 then (F5.l0 k1 t288 (Op.bytesLess (((rd_T43 t288 (ji26)).f0).toList) (((rd_T43 t288 x24_1).f0).toList)) (x6_1 ++ [(⟨(rd_T43 t288 x24_1).f1.f0,(rd_T43 t288 x24_1).f1.f1,(rd_T43 t288 x24_1).f1.f2⟩ : S25)]) t288 (t288.length : Int) (wrap64 (x24_1+1))) else (none)) else (none)) else (none))=some (r1,r2):=by first|(rw [hji26] at H;exact H)|(simp only [hji26] at H ⊢;exact H)
        (try rw [hji26] at A18);have hji26w : (IntKind.i64.wrap (x24_1 - 1))=ji26:=(zG _).trans hji26
        by_cases c27 : 0≤(ji26)
        ·
         rw [if_pos c27] at H
         have c27b0 : decide (0≤(ji26))=true:=decide_eq_true c27;clear c27
         by_cases c28 : (ji26)<(t288.length : Int)
         ·
          rw [if_pos c28] at H
          have c28b0 : decide ((ji26)<(t288.length : Int))=true:=decide_eq_true c28;clear c28
          by_cases c29 : x6_1.length<4398046511104
          ·
           rw [if_pos c29] at H
           have LMc29:=zh c29;clear c29;obtain ⟨y302,hy302⟩ : ∃ y_ : List (S25),y_=(x6_1 ++ [(⟨(rd_T43 t288 x24_1).f1.f0,(rd_T43 t288 x24_1).f1.f1,(rd_T43 t288 x24_1).f1.f2⟩ : S25)]):=⟨_,rfl⟩;replace H : (F5.l0 k1 t288 (Op.bytesLess (((rd_T43 t288 (ji26)).f0).toList) (((rd_T43 t288 x24_1).f0).toList)) y302 t288 (t288.length : Int) (wrap64 (x24_1+1)))=some (r1,r2):=by first|(rw [hy302];with_reducible exact H)|(have H2_:=(Option.bind_some _ _).symm.trans H;rw [hy302];with_reducible exact H2_)|(have H2_:=(Option.bind_some _ _).symm.trans H;with_reducible exact H2_)|with_reducible exact H|(rw [hy302];exact H)|exact H
           have Ny302:=zh hy302;clear hy302;have H':=zh H;clear H;have p295 : 0≤(x24_1 : Int):=zy jE;have q295 : x24_1<(t288.length : Int):=zy jE;obtain ⟨ad295,e295,hx295_0,hx295_1,hx295_2,hx295_3⟩:=at_T43 (yh HO_22.out).2.2 x24_1 p295 q295
           cases e295
           replace p295:=eq_true p295;replace q295:=eq_true q295
           go_wp2_with (first|((with_reducible refine zK (N:=8) rfl ?_);refine zI ?hg (N:=8) ?hd (cs:=#[.string (⟨#[]⟩ : ByteArray),.int .i64 0,.int .i64 0,.string (⟨#[]⟩ : ByteArray)]) (t:=43) ?hr ?_;(case hd=>rfl);(case hg=>rfl);(case hr=>go_simp <;> rfl);intro gb296 hg w30 hbox hb;replace HO_4:=zh (yg (Kd.R_elderB jQ gb296 (Nat.le_of_eq hg.symm)) hb);replace HO_6:=zh (yg jk hb);replace HO_22:=zh (yg (Kd.R_elderB jAE gb296 (Nat.le_of_eq hg.symm)) hb);have BK296:=zh (hbox);have hH_:=cH jS hb hg;have GW296:=zh hH_.1;have GE296:=GW296;replace HB:=zh hH_.2;have NB283_296:=zh ((jAF : gb283≠gb296));have NB296_283:=zh NB283_296.out.symm;replace BK283:=zh (cD BK283.out jR hb);clear hb hbox hg hH_;have hnb31:=NB296_283.out;have hnc31:=NB283_296.out;obtain ⟨hcz32_0,hcz32_1,hcz32_2,hcz32_3,hfz32_0,hfz32_1,hfz32_2,hfz32_3⟩:=cB4 BK296.out;have p301 : 0≤((ji26) : Int):=zy jE;have q301 : (ji26)<(t288.length : Int):=zy jE;obtain ⟨ad301,e301,hx301_0,hx301_1,hx301_2,hx301_3⟩:=at_T43 (yh HO_4.out).2.2 (ji26) p301 q301;obtain rfl : ad295=ad301:=(by injection e301);have hn301_0 : ad295.block≠gb296:=Kd.own_blk (yv HO_4.out (fun _ hk=>hk.2));have hn301_1 : ad295.block≠gb296:=Kd.own_blk (yv HO_4.out (fun _ hk=>hk.2));have hn301_2 : ad295.block≠gb296:=Kd.own_blk (yv HO_4.out (fun _ hk=>hk.2));have hn301_3 : ad295.block≠gb296:=Kd.own_blk (yv HO_4.out (fun _ hk=>hk.2));replace hx301_0:=(zR (p:=⟨gb296,0,none⟩) jAK (.string ((rd_T43 t288 x24_1).f0))).trans hx301_0;replace hx301_1:=(zR (p:=⟨gb296,0,none⟩) jAK (.string ((rd_T43 t288 x24_1).f0))).trans hx301_1;replace hx301_2:=(zR (p:=⟨gb296,0,none⟩) jAK (.string ((rd_T43 t288 x24_1).f0))).trans hx301_2;replace hx301_3:=(zR (p:=⟨gb296,0,none⟩) jAK (.string ((rd_T43 t288 x24_1).f0))).trans hx301_3;replace hx301_0:=(zR (p:=⟨gb296,1,none⟩) jAL (.int .i64 ((rd_T43 t288 x24_1).f1.f0))).trans hx301_0;replace hx301_1:=(zR (p:=⟨gb296,1,none⟩) jAL (.int .i64 ((rd_T43 t288 x24_1).f1.f0))).trans hx301_1;replace hx301_2:=(zR (p:=⟨gb296,1,none⟩) jAL (.int .i64 ((rd_T43 t288 x24_1).f1.f0))).trans hx301_2;replace hx301_3:=(zR (p:=⟨gb296,1,none⟩) jAL (.int .i64 ((rd_T43 t288 x24_1).f1.f0))).trans hx301_3;replace hx301_0:=(zR (p:=⟨gb296,2,none⟩) jAM (.int .i64 ((rd_T43 t288 x24_1).f1.f1))).trans hx301_0;replace hx301_1:=(zR (p:=⟨gb296,2,none⟩) jAM (.int .i64 ((rd_T43 t288 x24_1).f1.f1))).trans hx301_1;replace hx301_2:=(zR (p:=⟨gb296,2,none⟩) jAM (.int .i64 ((rd_T43 t288 x24_1).f1.f1))).trans hx301_2;replace hx301_3:=(zR (p:=⟨gb296,2,none⟩) jAM (.int .i64 ((rd_T43 t288 x24_1).f1.f1))).trans hx301_3;replace hx301_0:=(zR (p:=⟨gb296,3,none⟩) jAN (.string ((rd_T43 t288 x24_1).f1.f2))).trans hx301_0;replace hx301_1:=(zR (p:=⟨gb296,3,none⟩) jAN (.string ((rd_T43 t288 x24_1).f1.f2))).trans hx301_1;replace hx301_2:=(zR (p:=⟨gb296,3,none⟩) jAN (.string ((rd_T43 t288 x24_1).f1.f2))).trans hx301_2;replace hx301_3:=(zR (p:=⟨gb296,3,none⟩) jAN (.string ((rd_T43 t288 x24_1).f1.f2))).trans hx301_3;(try have hy301_0:=fun (n_ : Nat)=>(show ((((((w30.drewN n_).setCell ⟨gb296,0,none⟩ (.string ((rd_T43 t288 x24_1).f0))).setCell ⟨gb296,1,none⟩ (.int .i64 ((rd_T43 t288 x24_1).f1.f0))).setCell ⟨gb296,2,none⟩ (.int .i64 ((rd_T43 t288 x24_1).f1.f1))).setCell ⟨gb296,3,none⟩ (.string ((rd_T43 t288 x24_1).f1.f2)))).cell? _=some _ from hx301_0));(try have hy301_1:=fun (n_ : Nat)=>(show ((((((w30.drewN n_).setCell ⟨gb296,0,none⟩ (.string ((rd_T43 t288 x24_1).f0))).setCell ⟨gb296,1,none⟩ (.int .i64 ((rd_T43 t288 x24_1).f1.f0))).setCell ⟨gb296,2,none⟩ (.int .i64 ((rd_T43 t288 x24_1).f1.f1))).setCell ⟨gb296,3,none⟩ (.string ((rd_T43 t288 x24_1).f1.f2)))).cell? _=some _ from hx301_1));(try have hy301_2:=fun (n_ : Nat)=>(show ((((((w30.drewN n_).setCell ⟨gb296,0,none⟩ (.string ((rd_T43 t288 x24_1).f0))).setCell ⟨gb296,1,none⟩ (.int .i64 ((rd_T43 t288 x24_1).f1.f0))).setCell ⟨gb296,2,none⟩ (.int .i64 ((rd_T43 t288 x24_1).f1.f1))).setCell ⟨gb296,3,none⟩ (.string ((rd_T43 t288 x24_1).f1.f2)))).cell? _=some _ from hx301_2));(try have hy301_3:=fun (n_ : Nat)=>(show ((((((w30.drewN n_).setCell ⟨gb296,0,none⟩ (.string ((rd_T43 t288 x24_1).f0))).setCell ⟨gb296,1,none⟩ (.int .i64 ((rd_T43 t288 x24_1).f1.f0))).setCell ⟨gb296,2,none⟩ (.int .i64 ((rd_T43 t288 x24_1).f1.f1))).setCell ⟨gb296,3,none⟩ (.string ((rd_T43 t288 x24_1).f1.f2)))).cell? _=some _ from hx301_3));clear hn301_0 hn301_1 hn301_2 hn301_3;replace p301:=eq_true p301;replace q301:=eq_true q301)|(go_at_call 25;(with_reducible refine (F05.calls k1  ((rd_T43 t288 x24_1).f0) true _ A18.out).mono ?_);rintro e w' ⟨rfl,⟨nd,rfl⟩⟩;(try first|exact ⟨rfl,_,World.drewN_drewN _ _ _⟩|exact ⟨rfl,_,Eq.trans (World.drewN_drewN _ _ _) (congrArg (World.drewN _) (Nat.add_assoc _ _ _))⟩))|((with_reducible refine yB (b:=.append) (xs:=#[.tmp 50,.tmp 53]) rfl ?_);at_builtin;refine Kd.R_append k25 (w0:=w) w.heap.size rfl (.tmp 50) (.tmp 53) 34 25 (.agg #[(.int .i64 0),(.int .i64 0),(.string ⟨#[]⟩)]) 32 rfl Try.underlying34 info25 rfl jB jH u6 x6_1 (⟨(rd_T43 t288 x24_1).f1.f0,(rd_T43 t288 x24_1).f1.f1,(rd_T43 t288 x24_1).f1.f2⟩ : S25) [.int .i64 ((rd_T43 t288 x24_1).f1.f0),.int .i64 ((rd_T43 t288 x24_1).f1.f1),.string ((rd_T43 t288 x24_1).f1.f2)] (fun k_=>k_≠gb283) (fun _=>False) rfl jAA ?aP (fun _ hk=>hk.elim) ?aF ?aO ?aB ?aS ?aL ?_;(case aP=>exact k25_mkM _ _ _ (⟨(rd_T43 t288 x24_1).f1.f0,(rd_T43 t288 x24_1).f1.f1,(rd_T43 t288 x24_1).f1.f2⟩ : S25));(case aB=>exact jW);(case aF=>exact (fun k_ hk=>Kd.freshB (g:=gb283) (o:=.cells #[.int .i64 a0_0,.int .i64 a0_1,.string a0_2] 25 (0,0)) je k_ hk));(case aO=>exact jAG);(case aS=>exact (zB jW));(case aL=>have:=LMc29.out;omega);intro v303 w33 ho hb hg hat;rw [← Ny302.out] at ho;replace HO_4:=zh (Kd.R_over' jAH (Kd.R_typed jf) jB hg);replace HO_22:=zh (Kd.R_over' jAI (Kd.R_typed jf) jB hg);replace BK283:=zh (yw (g:=gb283) (o:=.cells #[.int .i64 a0_0,.int .i64 a0_1,.string a0_2] 25 (0,0)) je hg (yv HO_6.out (fun _ hk=>hk)));replace BK296:=zh (yw (g:=gb296) (o:=.cells #[.string ((rd_T43 t288 x24_1).f0),.int .i64 ((rd_T43 t288 x24_1).f1.f0),.int .i64 ((rd_T43 t288 x24_1).f1.f1),.string ((rd_T43 t288 x24_1).f1.f2)] 43 (0,0)) jAJ hg (Kd.R_ne HO_6.out BK296.out jB));replace HB:=zh (hb);have HO304:=zh (ho);clear HO_6 ho hb hg hat))
           repeat (go_quiet (first|((with_reducible refine zK (N:=8) rfl ?_);refine zI ?hg (N:=8) ?hd (cs:=#[.string (⟨#[]⟩ : ByteArray),.int .i64 0,.int .i64 0,.string (⟨#[]⟩ : ByteArray)]) (t:=43) ?hr ?_;(case hd=>rfl);(case hg=>rfl);(case hr=>go_simp <;> rfl);intro gb296 hg w30 hbox hb;replace HO_4:=zh (yg (Kd.R_elderB jQ gb296 (Nat.le_of_eq hg.symm)) hb);replace HO_6:=zh (yg jk hb);replace HO_22:=zh (yg (Kd.R_elderB jAE gb296 (Nat.le_of_eq hg.symm)) hb);have BK296:=zh (hbox);have hH_:=cH jS hb hg;have GW296:=zh hH_.1;have GE296:=GW296;replace HB:=zh hH_.2;have NB283_296:=zh ((jAF : gb283≠gb296));have NB296_283:=zh NB283_296.out.symm;replace BK283:=zh (cD BK283.out jR hb);clear hb hbox hg hH_;have hnb31:=NB296_283.out;have hnc31:=NB283_296.out;obtain ⟨hcz32_0,hcz32_1,hcz32_2,hcz32_3,hfz32_0,hfz32_1,hfz32_2,hfz32_3⟩:=cB4 BK296.out;have p301 : 0≤((ji26) : Int):=zy jE;have q301 : (ji26)<(t288.length : Int):=zy jE;obtain ⟨ad301,e301,hx301_0,hx301_1,hx301_2,hx301_3⟩:=at_T43 (yh HO_4.out).2.2 (ji26) p301 q301;obtain rfl : ad295=ad301:=(by injection e301);have hn301_0 : ad295.block≠gb296:=Kd.own_blk (yv HO_4.out (fun _ hk=>hk.2));have hn301_1 : ad295.block≠gb296:=Kd.own_blk (yv HO_4.out (fun _ hk=>hk.2));have hn301_2 : ad295.block≠gb296:=Kd.own_blk (yv HO_4.out (fun _ hk=>hk.2));have hn301_3 : ad295.block≠gb296:=Kd.own_blk (yv HO_4.out (fun _ hk=>hk.2));replace hx301_0:=(zR (p:=⟨gb296,0,none⟩) jAK (.string ((rd_T43 t288 x24_1).f0))).trans hx301_0;replace hx301_1:=(zR (p:=⟨gb296,0,none⟩) jAK (.string ((rd_T43 t288 x24_1).f0))).trans hx301_1;replace hx301_2:=(zR (p:=⟨gb296,0,none⟩) jAK (.string ((rd_T43 t288 x24_1).f0))).trans hx301_2;replace hx301_3:=(zR (p:=⟨gb296,0,none⟩) jAK (.string ((rd_T43 t288 x24_1).f0))).trans hx301_3;replace hx301_0:=(zR (p:=⟨gb296,1,none⟩) jAL (.int .i64 ((rd_T43 t288 x24_1).f1.f0))).trans hx301_0;replace hx301_1:=(zR (p:=⟨gb296,1,none⟩) jAL (.int .i64 ((rd_T43 t288 x24_1).f1.f0))).trans hx301_1;replace hx301_2:=(zR (p:=⟨gb296,1,none⟩) jAL (.int .i64 ((rd_T43 t288 x24_1).f1.f0))).trans hx301_2;replace hx301_3:=(zR (p:=⟨gb296,1,none⟩) jAL (.int .i64 ((rd_T43 t288 x24_1).f1.f0))).trans hx301_3;replace hx301_0:=(zR (p:=⟨gb296,2,none⟩) jAM (.int .i64 ((rd_T43 t288 x24_1).f1.f1))).trans hx301_0;replace hx301_1:=(zR (p:=⟨gb296,2,none⟩) jAM (.int .i64 ((rd_T43 t288 x24_1).f1.f1))).trans hx301_1;replace hx301_2:=(zR (p:=⟨gb296,2,none⟩) jAM (.int .i64 ((rd_T43 t288 x24_1).f1.f1))).trans hx301_2;replace hx301_3:=(zR (p:=⟨gb296,2,none⟩) jAM (.int .i64 ((rd_T43 t288 x24_1).f1.f1))).trans hx301_3;replace hx301_0:=(zR (p:=⟨gb296,3,none⟩) jAN (.string ((rd_T43 t288 x24_1).f1.f2))).trans hx301_0;replace hx301_1:=(zR (p:=⟨gb296,3,none⟩) jAN (.string ((rd_T43 t288 x24_1).f1.f2))).trans hx301_1;replace hx301_2:=(zR (p:=⟨gb296,3,none⟩) jAN (.string ((rd_T43 t288 x24_1).f1.f2))).trans hx301_2;replace hx301_3:=(zR (p:=⟨gb296,3,none⟩) jAN (.string ((rd_T43 t288 x24_1).f1.f2))).trans hx301_3;(try have hy301_0:=fun (n_ : Nat)=>(show ((((((w30.drewN n_).setCell ⟨gb296,0,none⟩ (.string ((rd_T43 t288 x24_1).f0))).setCell ⟨gb296,1,none⟩ (.int .i64 ((rd_T43 t288 x24_1).f1.f0))).setCell ⟨gb296,2,none⟩ (.int .i64 ((rd_T43 t288 x24_1).f1.f1))).setCell ⟨gb296,3,none⟩ (.string ((rd_T43 t288 x24_1).f1.f2)))).cell? _=some _ from hx301_0));(try have hy301_1:=fun (n_ : Nat)=>(show ((((((w30.drewN n_).setCell ⟨gb296,0,none⟩ (.string ((rd_T43 t288 x24_1).f0))).setCell ⟨gb296,1,none⟩ (.int .i64 ((rd_T43 t288 x24_1).f1.f0))).setCell ⟨gb296,2,none⟩ (.int .i64 ((rd_T43 t288 x24_1).f1.f1))).setCell ⟨gb296,3,none⟩ (.string ((rd_T43 t288 x24_1).f1.f2)))).cell? _=some _ from hx301_1));(try have hy301_2:=fun (n_ : Nat)=>(show ((((((w30.drewN n_).setCell ⟨gb296,0,none⟩ (.string ((rd_T43 t288 x24_1).f0))).setCell ⟨gb296,1,none⟩ (.int .i64 ((rd_T43 t288 x24_1).f1.f0))).setCell ⟨gb296,2,none⟩ (.int .i64 ((rd_T43 t288 x24_1).f1.f1))).setCell ⟨gb296,3,none⟩ (.string ((rd_T43 t288 x24_1).f1.f2)))).cell? _=some _ from hx301_2));(try have hy301_3:=fun (n_ : Nat)=>(show ((((((w30.drewN n_).setCell ⟨gb296,0,none⟩ (.string ((rd_T43 t288 x24_1).f0))).setCell ⟨gb296,1,none⟩ (.int .i64 ((rd_T43 t288 x24_1).f1.f0))).setCell ⟨gb296,2,none⟩ (.int .i64 ((rd_T43 t288 x24_1).f1.f1))).setCell ⟨gb296,3,none⟩ (.string ((rd_T43 t288 x24_1).f1.f2)))).cell? _=some _ from hx301_3));clear hn301_0 hn301_1 hn301_2 hn301_3;replace p301:=eq_true p301;replace q301:=eq_true q301)|(go_at_call 25;(with_reducible refine (F05.calls k1  ((rd_T43 t288 x24_1).f0) true _ A18.out).mono ?_);rintro e w' ⟨rfl,⟨nd,rfl⟩⟩;(try first|exact ⟨rfl,_,World.drewN_drewN _ _ _⟩|exact ⟨rfl,_,Eq.trans (World.drewN_drewN _ _ _) (congrArg (World.drewN _) (Nat.add_assoc _ _ _))⟩))|((with_reducible refine yB (b:=.append) (xs:=#[.tmp 50,.tmp 53]) rfl ?_);at_builtin;refine Kd.R_append k25 (w0:=w) w.heap.size rfl (.tmp 50) (.tmp 53) 34 25 (.agg #[(.int .i64 0),(.int .i64 0),(.string ⟨#[]⟩)]) 32 rfl Try.underlying34 info25 rfl jB jH u6 x6_1 (⟨(rd_T43 t288 x24_1).f1.f0,(rd_T43 t288 x24_1).f1.f1,(rd_T43 t288 x24_1).f1.f2⟩ : S25) [.int .i64 ((rd_T43 t288 x24_1).f1.f0),.int .i64 ((rd_T43 t288 x24_1).f1.f1),.string ((rd_T43 t288 x24_1).f1.f2)] (fun k_=>k_≠gb283) (fun _=>False) rfl jAA ?aP (fun _ hk=>hk.elim) ?aF ?aO ?aB ?aS ?aL ?_;(case aP=>exact k25_mkM _ _ _ (⟨(rd_T43 t288 x24_1).f1.f0,(rd_T43 t288 x24_1).f1.f1,(rd_T43 t288 x24_1).f1.f2⟩ : S25));(case aB=>exact jW);(case aF=>exact (fun k_ hk=>Kd.freshB (g:=gb283) (o:=.cells #[.int .i64 a0_0,.int .i64 a0_1,.string a0_2] 25 (0,0)) je k_ hk));(case aO=>exact jAG);(case aS=>exact (zB jW));(case aL=>have:=LMc29.out;omega);intro v303 w33 ho hb hg hat;rw [← Ny302.out] at ho;replace HO_4:=zh (Kd.R_over' jAH (Kd.R_typed jf) jB hg);replace HO_22:=zh (Kd.R_over' jAI (Kd.R_typed jf) jB hg);replace BK283:=zh (yw (g:=gb283) (o:=.cells #[.int .i64 a0_0,.int .i64 a0_1,.string a0_2] 25 (0,0)) je hg (yv HO_6.out (fun _ hk=>hk)));replace BK296:=zh (yw (g:=gb296) (o:=.cells #[.string ((rd_T43 t288 x24_1).f0),.int .i64 ((rd_T43 t288 x24_1).f1.f0),.int .i64 ((rd_T43 t288 x24_1).f1.f1),.string ((rd_T43 t288 x24_1).f1.f2)] 43 (0,0)) jAJ hg (Kd.R_ne HO_6.out BK296.out jB));replace HB:=zh (hb);have HO304:=zh (ho);clear HO_6 ho hb hg hat));try go_wp2_with (first|((with_reducible refine zK (N:=8) rfl ?_);refine zI ?hg (N:=8) ?hd (cs:=#[.string (⟨#[]⟩ : ByteArray),.int .i64 0,.int .i64 0,.string (⟨#[]⟩ : ByteArray)]) (t:=43) ?hr ?_;(case hd=>rfl);(case hg=>rfl);(case hr=>go_simp <;> rfl);intro gb296 hg w30 hbox hb;replace HO_4:=zh (yg (Kd.R_elderB jQ gb296 (Nat.le_of_eq hg.symm)) hb);replace HO_6:=zh (yg jk hb);replace HO_22:=zh (yg (Kd.R_elderB jAE gb296 (Nat.le_of_eq hg.symm)) hb);have BK296:=zh (hbox);have hH_:=cH jS hb hg;have GW296:=zh hH_.1;have GE296:=GW296;replace HB:=zh hH_.2;have NB283_296:=zh ((jAF : gb283≠gb296));have NB296_283:=zh NB283_296.out.symm;replace BK283:=zh (cD BK283.out jR hb);clear hb hbox hg hH_;have hnb31:=NB296_283.out;have hnc31:=NB283_296.out;obtain ⟨hcz32_0,hcz32_1,hcz32_2,hcz32_3,hfz32_0,hfz32_1,hfz32_2,hfz32_3⟩:=cB4 BK296.out;have p301 : 0≤((ji26) : Int):=zy jE;have q301 : (ji26)<(t288.length : Int):=zy jE;obtain ⟨ad301,e301,hx301_0,hx301_1,hx301_2,hx301_3⟩:=at_T43 (yh HO_4.out).2.2 (ji26) p301 q301;obtain rfl : ad295=ad301:=(by injection e301);have hn301_0 : ad295.block≠gb296:=Kd.own_blk (yv HO_4.out (fun _ hk=>hk.2));have hn301_1 : ad295.block≠gb296:=Kd.own_blk (yv HO_4.out (fun _ hk=>hk.2));have hn301_2 : ad295.block≠gb296:=Kd.own_blk (yv HO_4.out (fun _ hk=>hk.2));have hn301_3 : ad295.block≠gb296:=Kd.own_blk (yv HO_4.out (fun _ hk=>hk.2));replace hx301_0:=(zR (p:=⟨gb296,0,none⟩) jAK (.string ((rd_T43 t288 x24_1).f0))).trans hx301_0;replace hx301_1:=(zR (p:=⟨gb296,0,none⟩) jAK (.string ((rd_T43 t288 x24_1).f0))).trans hx301_1;replace hx301_2:=(zR (p:=⟨gb296,0,none⟩) jAK (.string ((rd_T43 t288 x24_1).f0))).trans hx301_2;replace hx301_3:=(zR (p:=⟨gb296,0,none⟩) jAK (.string ((rd_T43 t288 x24_1).f0))).trans hx301_3;replace hx301_0:=(zR (p:=⟨gb296,1,none⟩) jAL (.int .i64 ((rd_T43 t288 x24_1).f1.f0))).trans hx301_0;replace hx301_1:=(zR (p:=⟨gb296,1,none⟩) jAL (.int .i64 ((rd_T43 t288 x24_1).f1.f0))).trans hx301_1;replace hx301_2:=(zR (p:=⟨gb296,1,none⟩) jAL (.int .i64 ((rd_T43 t288 x24_1).f1.f0))).trans hx301_2;replace hx301_3:=(zR (p:=⟨gb296,1,none⟩) jAL (.int .i64 ((rd_T43 t288 x24_1).f1.f0))).trans hx301_3;replace hx301_0:=(zR (p:=⟨gb296,2,none⟩) jAM (.int .i64 ((rd_T43 t288 x24_1).f1.f1))).trans hx301_0;replace hx301_1:=(zR (p:=⟨gb296,2,none⟩) jAM (.int .i64 ((rd_T43 t288 x24_1).f1.f1))).trans hx301_1;replace hx301_2:=(zR (p:=⟨gb296,2,none⟩) jAM (.int .i64 ((rd_T43 t288 x24_1).f1.f1))).trans hx301_2;replace hx301_3:=(zR (p:=⟨gb296,2,none⟩) jAM (.int .i64 ((rd_T43 t288 x24_1).f1.f1))).trans hx301_3;replace hx301_0:=(zR (p:=⟨gb296,3,none⟩) jAN (.string ((rd_T43 t288 x24_1).f1.f2))).trans hx301_0;replace hx301_1:=(zR (p:=⟨gb296,3,none⟩) jAN (.string ((rd_T43 t288 x24_1).f1.f2))).trans hx301_1;replace hx301_2:=(zR (p:=⟨gb296,3,none⟩) jAN (.string ((rd_T43 t288 x24_1).f1.f2))).trans hx301_2;replace hx301_3:=(zR (p:=⟨gb296,3,none⟩) jAN (.string ((rd_T43 t288 x24_1).f1.f2))).trans hx301_3;(try have hy301_0:=fun (n_ : Nat)=>(show ((((((w30.drewN n_).setCell ⟨gb296,0,none⟩ (.string ((rd_T43 t288 x24_1).f0))).setCell ⟨gb296,1,none⟩ (.int .i64 ((rd_T43 t288 x24_1).f1.f0))).setCell ⟨gb296,2,none⟩ (.int .i64 ((rd_T43 t288 x24_1).f1.f1))).setCell ⟨gb296,3,none⟩ (.string ((rd_T43 t288 x24_1).f1.f2)))).cell? _=some _ from hx301_0));(try have hy301_1:=fun (n_ : Nat)=>(show ((((((w30.drewN n_).setCell ⟨gb296,0,none⟩ (.string ((rd_T43 t288 x24_1).f0))).setCell ⟨gb296,1,none⟩ (.int .i64 ((rd_T43 t288 x24_1).f1.f0))).setCell ⟨gb296,2,none⟩ (.int .i64 ((rd_T43 t288 x24_1).f1.f1))).setCell ⟨gb296,3,none⟩ (.string ((rd_T43 t288 x24_1).f1.f2)))).cell? _=some _ from hx301_1));(try have hy301_2:=fun (n_ : Nat)=>(show ((((((w30.drewN n_).setCell ⟨gb296,0,none⟩ (.string ((rd_T43 t288 x24_1).f0))).setCell ⟨gb296,1,none⟩ (.int .i64 ((rd_T43 t288 x24_1).f1.f0))).setCell ⟨gb296,2,none⟩ (.int .i64 ((rd_T43 t288 x24_1).f1.f1))).setCell ⟨gb296,3,none⟩ (.string ((rd_T43 t288 x24_1).f1.f2)))).cell? _=some _ from hx301_2));(try have hy301_3:=fun (n_ : Nat)=>(show ((((((w30.drewN n_).setCell ⟨gb296,0,none⟩ (.string ((rd_T43 t288 x24_1).f0))).setCell ⟨gb296,1,none⟩ (.int .i64 ((rd_T43 t288 x24_1).f1.f0))).setCell ⟨gb296,2,none⟩ (.int .i64 ((rd_T43 t288 x24_1).f1.f1))).setCell ⟨gb296,3,none⟩ (.string ((rd_T43 t288 x24_1).f1.f2)))).cell? _=some _ from hx301_3));clear hn301_0 hn301_1 hn301_2 hn301_3;replace p301:=eq_true p301;replace q301:=eq_true q301)|(go_at_call 25;(with_reducible refine (F05.calls k1  ((rd_T43 t288 x24_1).f0) true _ A18.out).mono ?_);rintro e w' ⟨rfl,⟨nd,rfl⟩⟩;(try first|exact ⟨rfl,_,World.drewN_drewN _ _ _⟩|exact ⟨rfl,_,Eq.trans (World.drewN_drewN _ _ _) (congrArg (World.drewN _) (Nat.add_assoc _ _ _))⟩))|((with_reducible refine yB (b:=.append) (xs:=#[.tmp 50,.tmp 53]) rfl ?_);at_builtin;refine Kd.R_append k25 (w0:=w) w.heap.size rfl (.tmp 50) (.tmp 53) 34 25 (.agg #[(.int .i64 0),(.int .i64 0),(.string ⟨#[]⟩)]) 32 rfl Try.underlying34 info25 rfl jB jH u6 x6_1 (⟨(rd_T43 t288 x24_1).f1.f0,(rd_T43 t288 x24_1).f1.f1,(rd_T43 t288 x24_1).f1.f2⟩ : S25) [.int .i64 ((rd_T43 t288 x24_1).f1.f0),.int .i64 ((rd_T43 t288 x24_1).f1.f1),.string ((rd_T43 t288 x24_1).f1.f2)] (fun k_=>k_≠gb283) (fun _=>False) rfl jAA ?aP (fun _ hk=>hk.elim) ?aF ?aO ?aB ?aS ?aL ?_;(case aP=>exact k25_mkM _ _ _ (⟨(rd_T43 t288 x24_1).f1.f0,(rd_T43 t288 x24_1).f1.f1,(rd_T43 t288 x24_1).f1.f2⟩ : S25));(case aB=>exact jW);(case aF=>exact (fun k_ hk=>Kd.freshB (g:=gb283) (o:=.cells #[.int .i64 a0_0,.int .i64 a0_1,.string a0_2] 25 (0,0)) je k_ hk));(case aO=>exact jAG);(case aS=>exact (zB jW));(case aL=>have:=LMc29.out;omega);intro v303 w33 ho hb hg hat;rw [← Ny302.out] at ho;replace HO_4:=zh (Kd.R_over' jAH (Kd.R_typed jf) jB hg);replace HO_22:=zh (Kd.R_over' jAI (Kd.R_typed jf) jB hg);replace BK283:=zh (yw (g:=gb283) (o:=.cells #[.int .i64 a0_0,.int .i64 a0_1,.string a0_2] 25 (0,0)) je hg (yv HO_6.out (fun _ hk=>hk)));replace BK296:=zh (yw (g:=gb296) (o:=.cells #[.string ((rd_T43 t288 x24_1).f0),.int .i64 ((rd_T43 t288 x24_1).f1.f0),.int .i64 ((rd_T43 t288 x24_1).f1.f1),.string ((rd_T43 t288 x24_1).f1.f2)] 43 (0,0)) jAJ hg (Kd.R_ne HO_6.out BK296.out jB));replace HB:=zh (hb);have HO304:=zh (ho);clear HO_6 ho hb hg hat)))
           go_roundg k1
           case measure=>have:=HK1.out;omega
           case rel=>exact ⟨((Op.bytesLess (((rd_T43 t288 (ji26)).f0).toList) (((rd_T43 t288 x24_1).f0).toList))),(y302),(wrap64 (x24_1+1)),(by first|rfl|(simp;done)|(simp only [← hji26] <;> (first|rfl|simp))|(simp [*];done)),jC,H',⟨jZ⟩,⟨jBi⟩,⟨by (with_reducible repeat (first|apply zm|apply zn|apply zo));exact HO304.out⟩,⟨jBk⟩,⟨jR⟩,⟨jW⟩⟩
          rw [if_neg c29] at H;exact absurd H (by simp)
         rw [if_neg c28] at H;exact absurd H (by simp)
        rw [if_neg c27] at H;exact absurd H (by simp)
       replace c19:=yb.mpr c19;subst c19;rw [if_neg (show ¬ (false=true) by decide)] at H
       by_cases c34 : x6_1.length<4398046511104
       ·
        rw [if_pos c34] at H
        have LMc34:=zh c34;clear c34;obtain ⟨y305,hy305⟩ : ∃ y_ : List (S25),y_=(x6_1 ++ [(⟨(rd_T43 t288 x24_1).f1.f0,(rd_T43 t288 x24_1).f1.f1,(rd_T43 t288 x24_1).f1.f2⟩ : S25)]):=⟨_,rfl⟩;replace H : (F5.l0 k1 t288 false y305 t288 (t288.length : Int) (wrap64 (x24_1+1)))=some (r1,r2):=by first|(rw [hy305];with_reducible exact H)|(have H2_:=(Option.bind_some _ _).symm.trans H;rw [hy305];with_reducible exact H2_)|(have H2_:=(Option.bind_some _ _).symm.trans H;with_reducible exact H2_)|with_reducible exact H|(rw [hy305];exact H)|exact H
        have Ny305:=zh hy305;clear hy305;have H':=zh H;clear H;have p295 : 0≤(x24_1 : Int):=zy jE;have q295 : x24_1<(t288.length : Int):=zy jE;obtain ⟨ad295,e295,hx295_0,hx295_1,hx295_2,hx295_3⟩:=at_T43 (yh HO_22.out).2.2 x24_1 p295 q295
        cases e295
        replace p295:=eq_true p295;replace q295:=eq_true q295
        go_wp2_with (first|((with_reducible refine zK (N:=8) rfl ?_);refine zI ?hg (N:=8) ?hd (cs:=#[.string (⟨#[]⟩ : ByteArray),.int .i64 0,.int .i64 0,.string (⟨#[]⟩ : ByteArray)]) (t:=43) ?hr ?_;(case hd=>rfl);(case hg=>rfl);(case hr=>go_simp <;> rfl);intro gb296 hg w35 hbox hb;replace HO_4:=zh (yg (Kd.R_elderB jQ gb296 (Nat.le_of_eq hg.symm)) hb);replace HO_6:=zh (yg jk hb);replace HO_22:=zh (yg (Kd.R_elderB jAE gb296 (Nat.le_of_eq hg.symm)) hb);have BK296:=zh (hbox);have hH_:=cH jS hb hg;have GW296:=zh hH_.1;have GE296:=GW296;replace HB:=zh hH_.2;have NB283_296:=zh ((jAF : gb283≠gb296));have NB296_283:=zh NB283_296.out.symm;replace BK283:=zh (cD BK283.out jR hb);clear hb hbox hg hH_;have hnb36:=NB296_283.out;have hnc36:=NB283_296.out;obtain ⟨hcz37_0,hcz37_1,hcz37_2,hcz37_3,hfz37_0,hfz37_1,hfz37_2,hfz37_3⟩:=cB4 BK296.out)|(go_at_call 25;(with_reducible refine (F05.calls k1  ((rd_T43 t288 x24_1).f0) false _ A18.out).mono ?_);rintro e w' ⟨rfl,⟨nd,rfl⟩⟩;(try first|exact ⟨rfl,_,World.drewN_drewN _ _ _⟩|exact ⟨rfl,_,Eq.trans (World.drewN_drewN _ _ _) (congrArg (World.drewN _) (Nat.add_assoc _ _ _))⟩))|((with_reducible refine yB (b:=.append) (xs:=#[.tmp 50,.tmp 53]) rfl ?_);at_builtin;refine Kd.R_append k25 (w0:=w) w.heap.size rfl (.tmp 50) (.tmp 53) 34 25 (.agg #[(.int .i64 0),(.int .i64 0),(.string ⟨#[]⟩)]) 32 rfl Try.underlying34 info25 rfl jB jH u6 x6_1 (⟨(rd_T43 t288 x24_1).f1.f0,(rd_T43 t288 x24_1).f1.f1,(rd_T43 t288 x24_1).f1.f2⟩ : S25) [.int .i64 ((rd_T43 t288 x24_1).f1.f0),.int .i64 ((rd_T43 t288 x24_1).f1.f1),.string ((rd_T43 t288 x24_1).f1.f2)] (fun k_=>k_≠gb283) (fun _=>False) rfl jAA ?aP (fun _ hk=>hk.elim) ?aF ?aO ?aB ?aS ?aL ?_;(case aP=>exact k25_mkM _ _ _ (⟨(rd_T43 t288 x24_1).f1.f0,(rd_T43 t288 x24_1).f1.f1,(rd_T43 t288 x24_1).f1.f2⟩ : S25));(case aB=>exact jW);(case aF=>exact (fun k_ hk=>Kd.freshB (g:=gb283) (o:=.cells #[.int .i64 a0_0,.int .i64 a0_1,.string a0_2] 25 (0,0)) je k_ hk));(case aO=>exact jAG);(case aS=>exact (zB jW));(case aL=>have:=LMc34.out;omega);intro v306 w38 ho hb hg hat;rw [← Ny305.out] at ho;replace HO_4:=zh (Kd.R_over' jAH (Kd.R_typed jf) jB hg);replace HO_22:=zh (Kd.R_over' jAI (Kd.R_typed jf) jB hg);replace BK283:=zh (yw (g:=gb283) (o:=.cells #[.int .i64 a0_0,.int .i64 a0_1,.string a0_2] 25 (0,0)) je hg (yv HO_6.out (fun _ hk=>hk)));replace BK296:=zh (yw (g:=gb296) (o:=.cells #[.string ((rd_T43 t288 x24_1).f0),.int .i64 ((rd_T43 t288 x24_1).f1.f0),.int .i64 ((rd_T43 t288 x24_1).f1.f1),.string ((rd_T43 t288 x24_1).f1.f2)] 43 (0,0)) jAJ hg (Kd.R_ne HO_6.out BK296.out jB));replace HB:=zh (hb);have HO307:=zh (ho);clear HO_6 ho hb hg hat))
        repeat (go_quiet (first|((with_reducible refine zK (N:=8) rfl ?_);refine zI ?hg (N:=8) ?hd (cs:=#[.string (⟨#[]⟩ : ByteArray),.int .i64 0,.int .i64 0,.string (⟨#[]⟩ : ByteArray)]) (t:=43) ?hr ?_;(case hd=>rfl);(case hg=>rfl);(case hr=>go_simp <;> rfl);intro gb296 hg w35 hbox hb;replace HO_4:=zh (yg (Kd.R_elderB jQ gb296 (Nat.le_of_eq hg.symm)) hb);replace HO_6:=zh (yg jk hb);replace HO_22:=zh (yg (Kd.R_elderB jAE gb296 (Nat.le_of_eq hg.symm)) hb);have BK296:=zh (hbox);have hH_:=cH jS hb hg;have GW296:=zh hH_.1;have GE296:=GW296;replace HB:=zh hH_.2;have NB283_296:=zh ((jAF : gb283≠gb296));have NB296_283:=zh NB283_296.out.symm;replace BK283:=zh (cD BK283.out jR hb);clear hb hbox hg hH_;have hnb36:=NB296_283.out;have hnc36:=NB283_296.out;obtain ⟨hcz37_0,hcz37_1,hcz37_2,hcz37_3,hfz37_0,hfz37_1,hfz37_2,hfz37_3⟩:=cB4 BK296.out)|(go_at_call 25;(with_reducible refine (F05.calls k1  ((rd_T43 t288 x24_1).f0) false _ A18.out).mono ?_);rintro e w' ⟨rfl,⟨nd,rfl⟩⟩;(try first|exact ⟨rfl,_,World.drewN_drewN _ _ _⟩|exact ⟨rfl,_,Eq.trans (World.drewN_drewN _ _ _) (congrArg (World.drewN _) (Nat.add_assoc _ _ _))⟩))|((with_reducible refine yB (b:=.append) (xs:=#[.tmp 50,.tmp 53]) rfl ?_);at_builtin;refine Kd.R_append k25 (w0:=w) w.heap.size rfl (.tmp 50) (.tmp 53) 34 25 (.agg #[(.int .i64 0),(.int .i64 0),(.string ⟨#[]⟩)]) 32 rfl Try.underlying34 info25 rfl jB jH u6 x6_1 (⟨(rd_T43 t288 x24_1).f1.f0,(rd_T43 t288 x24_1).f1.f1,(rd_T43 t288 x24_1).f1.f2⟩ : S25) [.int .i64 ((rd_T43 t288 x24_1).f1.f0),.int .i64 ((rd_T43 t288 x24_1).f1.f1),.string ((rd_T43 t288 x24_1).f1.f2)] (fun k_=>k_≠gb283) (fun _=>False) rfl jAA ?aP (fun _ hk=>hk.elim) ?aF ?aO ?aB ?aS ?aL ?_;(case aP=>exact k25_mkM _ _ _ (⟨(rd_T43 t288 x24_1).f1.f0,(rd_T43 t288 x24_1).f1.f1,(rd_T43 t288 x24_1).f1.f2⟩ : S25));(case aB=>exact jW);(case aF=>exact (fun k_ hk=>Kd.freshB (g:=gb283) (o:=.cells #[.int .i64 a0_0,.int .i64 a0_1,.string a0_2] 25 (0,0)) je k_ hk));(case aO=>exact jAG);(case aS=>exact (zB jW));(case aL=>have:=LMc34.out;omega);intro v306 w38 ho hb hg hat;rw [← Ny305.out] at ho;replace HO_4:=zh (Kd.R_over' jAH (Kd.R_typed jf) jB hg);replace HO_22:=zh (Kd.R_over' jAI (Kd.R_typed jf) jB hg);replace BK283:=zh (yw (g:=gb283) (o:=.cells #[.int .i64 a0_0,.int .i64 a0_1,.string a0_2] 25 (0,0)) je hg (yv HO_6.out (fun _ hk=>hk)));replace BK296:=zh (yw (g:=gb296) (o:=.cells #[.string ((rd_T43 t288 x24_1).f0),.int .i64 ((rd_T43 t288 x24_1).f1.f0),.int .i64 ((rd_T43 t288 x24_1).f1.f1),.string ((rd_T43 t288 x24_1).f1.f2)] 43 (0,0)) jAJ hg (Kd.R_ne HO_6.out BK296.out jB));replace HB:=zh (hb);have HO307:=zh (ho);clear HO_6 ho hb hg hat));try go_wp2_with (first|((with_reducible refine zK (N:=8) rfl ?_);refine zI ?hg (N:=8) ?hd (cs:=#[.string (⟨#[]⟩ : ByteArray),.int .i64 0,.int .i64 0,.string (⟨#[]⟩ : ByteArray)]) (t:=43) ?hr ?_;(case hd=>rfl);(case hg=>rfl);(case hr=>go_simp <;> rfl);intro gb296 hg w35 hbox hb;replace HO_4:=zh (yg (Kd.R_elderB jQ gb296 (Nat.le_of_eq hg.symm)) hb);replace HO_6:=zh (yg jk hb);replace HO_22:=zh (yg (Kd.R_elderB jAE gb296 (Nat.le_of_eq hg.symm)) hb);have BK296:=zh (hbox);have hH_:=cH jS hb hg;have GW296:=zh hH_.1;have GE296:=GW296;replace HB:=zh hH_.2;have NB283_296:=zh ((jAF : gb283≠gb296));have NB296_283:=zh NB283_296.out.symm;replace BK283:=zh (cD BK283.out jR hb);clear hb hbox hg hH_;have hnb36:=NB296_283.out;have hnc36:=NB283_296.out;obtain ⟨hcz37_0,hcz37_1,hcz37_2,hcz37_3,hfz37_0,hfz37_1,hfz37_2,hfz37_3⟩:=cB4 BK296.out)|(go_at_call 25;(with_reducible refine (F05.calls k1  ((rd_T43 t288 x24_1).f0) false _ A18.out).mono ?_);rintro e w' ⟨rfl,⟨nd,rfl⟩⟩;(try first|exact ⟨rfl,_,World.drewN_drewN _ _ _⟩|exact ⟨rfl,_,Eq.trans (World.drewN_drewN _ _ _) (congrArg (World.drewN _) (Nat.add_assoc _ _ _))⟩))|((with_reducible refine yB (b:=.append) (xs:=#[.tmp 50,.tmp 53]) rfl ?_);at_builtin;refine Kd.R_append k25 (w0:=w) w.heap.size rfl (.tmp 50) (.tmp 53) 34 25 (.agg #[(.int .i64 0),(.int .i64 0),(.string ⟨#[]⟩)]) 32 rfl Try.underlying34 info25 rfl jB jH u6 x6_1 (⟨(rd_T43 t288 x24_1).f1.f0,(rd_T43 t288 x24_1).f1.f1,(rd_T43 t288 x24_1).f1.f2⟩ : S25) [.int .i64 ((rd_T43 t288 x24_1).f1.f0),.int .i64 ((rd_T43 t288 x24_1).f1.f1),.string ((rd_T43 t288 x24_1).f1.f2)] (fun k_=>k_≠gb283) (fun _=>False) rfl jAA ?aP (fun _ hk=>hk.elim) ?aF ?aO ?aB ?aS ?aL ?_;(case aP=>exact k25_mkM _ _ _ (⟨(rd_T43 t288 x24_1).f1.f0,(rd_T43 t288 x24_1).f1.f1,(rd_T43 t288 x24_1).f1.f2⟩ : S25));(case aB=>exact jW);(case aF=>exact (fun k_ hk=>Kd.freshB (g:=gb283) (o:=.cells #[.int .i64 a0_0,.int .i64 a0_1,.string a0_2] 25 (0,0)) je k_ hk));(case aO=>exact jAG);(case aS=>exact (zB jW));(case aL=>have:=LMc34.out;omega);intro v306 w38 ho hb hg hat;rw [← Ny305.out] at ho;replace HO_4:=zh (Kd.R_over' jAH (Kd.R_typed jf) jB hg);replace HO_22:=zh (Kd.R_over' jAI (Kd.R_typed jf) jB hg);replace BK283:=zh (yw (g:=gb283) (o:=.cells #[.int .i64 a0_0,.int .i64 a0_1,.string a0_2] 25 (0,0)) je hg (yv HO_6.out (fun _ hk=>hk)));replace BK296:=zh (yw (g:=gb296) (o:=.cells #[.string ((rd_T43 t288 x24_1).f0),.int .i64 ((rd_T43 t288 x24_1).f1.f0),.int .i64 ((rd_T43 t288 x24_1).f1.f1),.string ((rd_T43 t288 x24_1).f1.f2)] 43 (0,0)) jAJ hg (Kd.R_ne HO_6.out BK296.out jB));replace HB:=zh (hb);have HO307:=zh (ho);clear HO_6 ho hb hg hat)))
        go_roundg k1
        case measure=>have:=HK1.out;omega
        case rel=>exact ⟨(false),(y305),(wrap64 (x24_1+1)),jC,jC,H',⟨jZ⟩,⟨jBi⟩,⟨by (with_reducible repeat (first|apply zm|apply zn|apply zo));exact HO307.out⟩,⟨jBk⟩,⟨jR⟩,⟨jW⟩⟩
       rw [if_neg c34] at H;exact absurd H (by simp)
      replace c17:=yb.mpr c17;subst c17;rw [if_neg (show ¬ (false=true) by decide)] at H
      by_cases c39 : x6_1.length<4398046511104
      ·
       rw [if_pos c39] at H
       have LMc39:=zh c39;clear c39;obtain ⟨y308,hy308⟩ : ∃ y_ : List (S25),y_=(x6_1 ++ [(⟨(rd_T43 t288 x24_1).f1.f0,(rd_T43 t288 x24_1).f1.f1,(rd_T43 t288 x24_1).f1.f2⟩ : S25)]):=⟨_,rfl⟩;replace H : (F5.l0 k1 t288 false y308 t288 (t288.length : Int) (wrap64 (x24_1+1)))=some (r1,r2):=by first|(rw [hy308];with_reducible exact H)|(have H2_:=(Option.bind_some _ _).symm.trans H;rw [hy308];with_reducible exact H2_)|(have H2_:=(Option.bind_some _ _).symm.trans H;with_reducible exact H2_)|with_reducible exact H|(rw [hy308];exact H)|exact H
       have Ny308:=zh hy308;clear hy308;have H':=zh H;clear H;have p295 : 0≤(x24_1 : Int):=zy jE;have q295 : x24_1<(t288.length : Int):=zy jE;obtain ⟨ad295,e295,hx295_0,hx295_1,hx295_2,hx295_3⟩:=at_T43 (yh HO_22.out).2.2 x24_1 p295 q295
       cases e295
       replace p295:=eq_true p295;replace q295:=eq_true q295
       go_wp2_with (first|((with_reducible refine zK (N:=8) rfl ?_);refine zI ?hg (N:=8) ?hd (cs:=#[.string (⟨#[]⟩ : ByteArray),.int .i64 0,.int .i64 0,.string (⟨#[]⟩ : ByteArray)]) (t:=43) ?hr ?_;(case hd=>rfl);(case hg=>rfl);(case hr=>go_simp <;> rfl);intro gb296 hg w40 hbox hb;replace HO_4:=zh (yg (Kd.R_elderB jQ gb296 (Nat.le_of_eq hg.symm)) hb);replace HO_6:=zh (yg jk hb);replace HO_22:=zh (yg (Kd.R_elderB jAE gb296 (Nat.le_of_eq hg.symm)) hb);have BK296:=zh (hbox);have hH_:=cH jS hb hg;have GW296:=zh hH_.1;have GE296:=GW296;replace HB:=zh hH_.2;have NB283_296:=zh ((jAF : gb283≠gb296));have NB296_283:=zh NB283_296.out.symm;replace BK283:=zh (cD BK283.out jR hb);clear hb hbox hg hH_;have hnb41:=NB296_283.out;have hnc41:=NB283_296.out;obtain ⟨hcz42_0,hcz42_1,hcz42_2,hcz42_3,hfz42_0,hfz42_1,hfz42_2,hfz42_3⟩:=cB4 BK296.out)|((with_reducible refine yB (b:=.append) (xs:=#[.tmp 50,.tmp 53]) rfl ?_);at_builtin;refine Kd.R_append k25 (w0:=w) w.heap.size rfl (.tmp 50) (.tmp 53) 34 25 (.agg #[(.int .i64 0),(.int .i64 0),(.string ⟨#[]⟩)]) 32 rfl Try.underlying34 info25 rfl jB jH u6 x6_1 (⟨(rd_T43 t288 x24_1).f1.f0,(rd_T43 t288 x24_1).f1.f1,(rd_T43 t288 x24_1).f1.f2⟩ : S25) [.int .i64 ((rd_T43 t288 x24_1).f1.f0),.int .i64 ((rd_T43 t288 x24_1).f1.f1),.string ((rd_T43 t288 x24_1).f1.f2)] (fun k_=>k_≠gb283) (fun _=>False) rfl jAA ?aP (fun _ hk=>hk.elim) ?aF ?aO ?aB ?aS ?aL ?_;(case aP=>exact k25_mkM _ _ _ (⟨(rd_T43 t288 x24_1).f1.f0,(rd_T43 t288 x24_1).f1.f1,(rd_T43 t288 x24_1).f1.f2⟩ : S25));(case aB=>exact jW);(case aF=>exact (fun k_ hk=>Kd.freshB (g:=gb283) (o:=.cells #[.int .i64 a0_0,.int .i64 a0_1,.string a0_2] 25 (0,0)) je k_ hk));(case aO=>exact jAG);(case aS=>exact (zB jW));(case aL=>have:=LMc39.out;omega);intro v309 w43 ho hb hg hat;rw [← Ny308.out] at ho;replace HO_4:=zh (Kd.R_over' jAH (Kd.R_typed jf) jB hg);replace HO_22:=zh (Kd.R_over' jAI (Kd.R_typed jf) jB hg);replace BK283:=zh (yw (g:=gb283) (o:=.cells #[.int .i64 a0_0,.int .i64 a0_1,.string a0_2] 25 (0,0)) je hg (yv HO_6.out (fun _ hk=>hk)));replace BK296:=zh (yw (g:=gb296) (o:=.cells #[.string ((rd_T43 t288 x24_1).f0),.int .i64 ((rd_T43 t288 x24_1).f1.f0),.int .i64 ((rd_T43 t288 x24_1).f1.f1),.string ((rd_T43 t288 x24_1).f1.f2)] 43 (0,0)) jAJ hg (Kd.R_ne HO_6.out BK296.out jB));replace HB:=zh (hb);have HO310:=zh (ho);clear HO_6 ho hb hg hat))
       repeat (go_quiet (first|((with_reducible refine zK (N:=8) rfl ?_);refine zI ?hg (N:=8) ?hd (cs:=#[.string (⟨#[]⟩ : ByteArray),.int .i64 0,.int .i64 0,.string (⟨#[]⟩ : ByteArray)]) (t:=43) ?hr ?_;(case hd=>rfl);(case hg=>rfl);(case hr=>go_simp <;> rfl);intro gb296 hg w40 hbox hb;replace HO_4:=zh (yg (Kd.R_elderB jQ gb296 (Nat.le_of_eq hg.symm)) hb);replace HO_6:=zh (yg jk hb);replace HO_22:=zh (yg (Kd.R_elderB jAE gb296 (Nat.le_of_eq hg.symm)) hb);have BK296:=zh (hbox);have hH_:=cH jS hb hg;have GW296:=zh hH_.1;have GE296:=GW296;replace HB:=zh hH_.2;have NB283_296:=zh ((jAF : gb283≠gb296));have NB296_283:=zh NB283_296.out.symm;replace BK283:=zh (cD BK283.out jR hb);clear hb hbox hg hH_;have hnb41:=NB296_283.out;have hnc41:=NB283_296.out;obtain ⟨hcz42_0,hcz42_1,hcz42_2,hcz42_3,hfz42_0,hfz42_1,hfz42_2,hfz42_3⟩:=cB4 BK296.out)|((with_reducible refine yB (b:=.append) (xs:=#[.tmp 50,.tmp 53]) rfl ?_);at_builtin;refine Kd.R_append k25 (w0:=w) w.heap.size rfl (.tmp 50) (.tmp 53) 34 25 (.agg #[(.int .i64 0),(.int .i64 0),(.string ⟨#[]⟩)]) 32 rfl Try.underlying34 info25 rfl jB jH u6 x6_1 (⟨(rd_T43 t288 x24_1).f1.f0,(rd_T43 t288 x24_1).f1.f1,(rd_T43 t288 x24_1).f1.f2⟩ : S25) [.int .i64 ((rd_T43 t288 x24_1).f1.f0),.int .i64 ((rd_T43 t288 x24_1).f1.f1),.string ((rd_T43 t288 x24_1).f1.f2)] (fun k_=>k_≠gb283) (fun _=>False) rfl jAA ?aP (fun _ hk=>hk.elim) ?aF ?aO ?aB ?aS ?aL ?_;(case aP=>exact k25_mkM _ _ _ (⟨(rd_T43 t288 x24_1).f1.f0,(rd_T43 t288 x24_1).f1.f1,(rd_T43 t288 x24_1).f1.f2⟩ : S25));(case aB=>exact jW);(case aF=>exact (fun k_ hk=>Kd.freshB (g:=gb283) (o:=.cells #[.int .i64 a0_0,.int .i64 a0_1,.string a0_2] 25 (0,0)) je k_ hk));(case aO=>exact jAG);(case aS=>exact (zB jW));(case aL=>have:=LMc39.out;omega);intro v309 w43 ho hb hg hat;rw [← Ny308.out] at ho;replace HO_4:=zh (Kd.R_over' jAH (Kd.R_typed jf) jB hg);replace HO_22:=zh (Kd.R_over' jAI (Kd.R_typed jf) jB hg);replace BK283:=zh (yw (g:=gb283) (o:=.cells #[.int .i64 a0_0,.int .i64 a0_1,.string a0_2] 25 (0,0)) je hg (yv HO_6.out (fun _ hk=>hk)));replace BK296:=zh (yw (g:=gb296) (o:=.cells #[.string ((rd_T43 t288 x24_1).f0),.int .i64 ((rd_T43 t288 x24_1).f1.f0),.int .i64 ((rd_T43 t288 x24_1).f1.f1),.string ((rd_T43 t288 x24_1).f1.f2)] 43 (0,0)) jAJ hg (Kd.R_ne HO_6.out BK296.out jB));replace HB:=zh (hb);have HO310:=zh (ho);clear HO_6 ho hb hg hat));try go_wp2_with (first|((with_reducible refine zK (N:=8) rfl ?_);refine zI ?hg (N:=8) ?hd (cs:=#[.string (⟨#[]⟩ : ByteArray),.int .i64 0,.int .i64 0,.string (⟨#[]⟩ : ByteArray)]) (t:=43) ?hr ?_;(case hd=>rfl);(case hg=>rfl);(case hr=>go_simp <;> rfl);intro gb296 hg w40 hbox hb;replace HO_4:=zh (yg (Kd.R_elderB jQ gb296 (Nat.le_of_eq hg.symm)) hb);replace HO_6:=zh (yg jk hb);replace HO_22:=zh (yg (Kd.R_elderB jAE gb296 (Nat.le_of_eq hg.symm)) hb);have BK296:=zh (hbox);have hH_:=cH jS hb hg;have GW296:=zh hH_.1;have GE296:=GW296;replace HB:=zh hH_.2;have NB283_296:=zh ((jAF : gb283≠gb296));have NB296_283:=zh NB283_296.out.symm;replace BK283:=zh (cD BK283.out jR hb);clear hb hbox hg hH_;have hnb41:=NB296_283.out;have hnc41:=NB283_296.out;obtain ⟨hcz42_0,hcz42_1,hcz42_2,hcz42_3,hfz42_0,hfz42_1,hfz42_2,hfz42_3⟩:=cB4 BK296.out)|((with_reducible refine yB (b:=.append) (xs:=#[.tmp 50,.tmp 53]) rfl ?_);at_builtin;refine Kd.R_append k25 (w0:=w) w.heap.size rfl (.tmp 50) (.tmp 53) 34 25 (.agg #[(.int .i64 0),(.int .i64 0),(.string ⟨#[]⟩)]) 32 rfl Try.underlying34 info25 rfl jB jH u6 x6_1 (⟨(rd_T43 t288 x24_1).f1.f0,(rd_T43 t288 x24_1).f1.f1,(rd_T43 t288 x24_1).f1.f2⟩ : S25) [.int .i64 ((rd_T43 t288 x24_1).f1.f0),.int .i64 ((rd_T43 t288 x24_1).f1.f1),.string ((rd_T43 t288 x24_1).f1.f2)] (fun k_=>k_≠gb283) (fun _=>False) rfl jAA ?aP (fun _ hk=>hk.elim) ?aF ?aO ?aB ?aS ?aL ?_;(case aP=>exact k25_mkM _ _ _ (⟨(rd_T43 t288 x24_1).f1.f0,(rd_T43 t288 x24_1).f1.f1,(rd_T43 t288 x24_1).f1.f2⟩ : S25));(case aB=>exact jW);(case aF=>exact (fun k_ hk=>Kd.freshB (g:=gb283) (o:=.cells #[.int .i64 a0_0,.int .i64 a0_1,.string a0_2] 25 (0,0)) je k_ hk));(case aO=>exact jAG);(case aS=>exact (zB jW));(case aL=>have:=LMc39.out;omega);intro v309 w43 ho hb hg hat;rw [← Ny308.out] at ho;replace HO_4:=zh (Kd.R_over' jAH (Kd.R_typed jf) jB hg);replace HO_22:=zh (Kd.R_over' jAI (Kd.R_typed jf) jB hg);replace BK283:=zh (yw (g:=gb283) (o:=.cells #[.int .i64 a0_0,.int .i64 a0_1,.string a0_2] 25 (0,0)) je hg (yv HO_6.out (fun _ hk=>hk)));replace BK296:=zh (yw (g:=gb296) (o:=.cells #[.string ((rd_T43 t288 x24_1).f0),.int .i64 ((rd_T43 t288 x24_1).f1.f0),.int .i64 ((rd_T43 t288 x24_1).f1.f1),.string ((rd_T43 t288 x24_1).f1.f2)] 43 (0,0)) jAJ hg (Kd.R_ne HO_6.out BK296.out jB));replace HB:=zh (hb);have HO310:=zh (ho);clear HO_6 ho hb hg hat)))
       go_roundg k1
       case measure=>have:=HK1.out;omega
       case rel=>exact ⟨(false),(y308),(wrap64 (x24_1+1)),jC,jC,H',⟨jZ⟩,⟨jBi⟩,⟨by (with_reducible repeat (first|apply zm|apply zn|apply zo));exact HO310.out⟩,⟨jBk⟩,⟨jR⟩,⟨jW⟩⟩
      rw [if_neg c39] at H;exact absurd H (by simp)
     rw [if_neg c16] at H;exact absurd H (by simp)
    rw [if_neg c15] at H;exact absurd H (by simp)
   rw [if_neg c14] at H;have c14b0 : decide (x24_1<(t288.length : Int))=false:=decide_eq_false c14;clear c14;simp only [Option.some.injEq,Prod.mk.injEq] at H;obtain ⟨rfl,rfl⟩:=H
   go_wp2
   repeat (go_quiet (fail);try go_wp2)
   go_ret2
   exact ⟨_,jF,by (with_reducible repeat (first|apply zm|apply zn|apply zo));exact zM HO_6.out (fun _ hk=>trivial),jS⟩

end Go.Proofs.Ytoinoihiknmnmaa.Q
end
section
namespace Go.Proofs.Ytoinoihiknmnmaa.Q
open Go.RowKit Go.Proofs.YtoinoihiknmnmaaW.PrintWords Go.Proofs.YtoinoihiknmnmaaW.PrintLast Go.Proofs.YtoinoihiknmnmaaW.PrintMore
attribute [local go_sem] max2_int min2_int max_two min_two max_three min_three max_four min_four max2_str min2_str str_geq str_gtr str_leq   -- for this text's walks alone
set_option linter.unusedVariables false
set_option linter.unusedSimpArgs false

mutual
def F8.j0 : Nat→Bool→Int→Int→ByteArray→Option (Int)
 | 0,_,_,_,_=>none
 | k+1,x14,x332000,x332001,x332002=>if x14=true then (some 0) else ((F5.f k x332000 x332001 x332002).bind fun bt335=>(if (bt335.1.length : Int) > 0 then (F8.l0 k 0 bt335.1 (bt335.1.length : Int) 0) else (some (0+1))))
def F8.l0 : Nat→Int→List (S25)→Int→Int→Option (Int)
 | 0,_,_,_,_=>none
 | k+1,x3,x24,x25,x26=>if x26<x25 then (if 0≤x26 then (if x26<(x24.length : Int) then ((F8.f k ((rd_T25 x24 x26).f0) ((rd_T25 x24 x26).f1) ((rd_T25 x24 x26).f2)).bind fun t341=>(F8.l0 k (mx x3 t341) x24 x25 (wrap64 (x26+1)))) else (none)) else (none)) else (some (wrap64 (x3+1)))
def F8.f : Nat→Int→Int→ByteArray→Option (Int)
 | 0,_,_,_=>none
 | k+1,a0_0,a0_1,a0_2=>if a0_0=4 then (F8.j0 k false a0_0 a0_1 a0_2) else (F8.j0 k (a0_0 != 5) a0_0 a0_1 a0_2)
end
theorem F8.mono_l : ∀ k,(∀ y0 y1 y2,LeO (F8.f k y0 y1 y2) (F8.f (k+1) y0 y1 y2))∧(∀ y0 y1 y2 y3,LeO (F8.j0 k y0 y1 y2 y3) (F8.j0 (k+1) y0 y1 y2 y3))∧(∀ y0 y1 y2 y3,LeO (F8.l0 k y0 y1 y2 y3) (F8.l0 (k+1) y0 y1 y2 y3))
 | 0=>⟨fun _ _ _ r h=>by simp [F8.f] at h,fun _ _ _ _ r h=>by simp [F8.j0] at h,fun _ _ _ _ r h=>by simp [F8.l0] at h⟩
 | k+1=>by
  obtain ⟨ih0,ih1,ih2⟩:=F8.mono_l k;refine ⟨?_,?_,?_⟩
  ·
   intro y0 y1 y2
   unfold F8.f
   repeat' first|(with_reducible first|exact ih0 _ _ _|exact ih1 _ _ _ _|exact ih2 _ _ _ _|exact F5.mono _ _ _ _|exact zQ _|exact zN _|refine zP ?_ ?_|refine zO ?_ (fun _=>?_))|refine zP ?_ ?_|refine zO ?_ (fun _=>?_)
  ·
   intro y0 y1 y2 y3
   unfold F8.j0
   repeat' first|(with_reducible first|exact ih0 _ _ _|exact ih1 _ _ _ _|exact ih2 _ _ _ _|exact F5.mono _ _ _ _|exact zQ _|exact zN _|refine zP ?_ ?_|refine zO ?_ (fun _=>?_))|refine zP ?_ ?_|refine zO ?_ (fun _=>?_)
  intro y0 y1 y2 y3;unfold F8.l0
  repeat' first|(with_reducible first|exact ih0 _ _ _|exact ih1 _ _ _ _|exact ih2 _ _ _ _|exact F5.mono _ _ _ _|exact zQ _|exact zN _|refine zP ?_ ?_|refine zO ?_ (fun _=>?_))|refine zP ?_ ?_|refine zO ?_ (fun _=>?_)
theorem F8.mono : ∀ a0 a1 a2 k,LeO (F8.f k a0 a1 a2) (F8.f (k+1) a0 a1 a2):=by
 intro a0 a1 a2 k;obtain ⟨ih0,ih1,ih2⟩:=F8.mono_l k;exact ih0 a0 a1 a2
set_option maxHeartbeats 8000000 in
set_option maxRecDepth 100000 in
theorem F8.calls (k : Nat) : ∀ (a0_0 : Int) (a0_1 : Int) (a0_2 : ByteArray) (r : Int) (w : World) (h : F8.f k a0_0 a0_1 a0_2=some r),
  Calls Try.prog 50 #[.agg #[.int .i64 a0_0,.int .i64 a0_1,.string a0_2]] w fun e w' => e = .returned (.int .i64 r)∧Below w.heap.size w w':=by
 induction k using Nat.strongRecOn with
 | _ k ih =>
 intro a0_0 a0_1 a0_2 r w h
 cases k with
 | zero=>exact absurd h (by simp [F8.f])
 | succ k =>
 simp only [F8.f] at h;have hu25:=Try.underlying25;have HB:=zh (Below.refl w.heap.size w);have H : (if a0_0=4 then (F8.j0 k false a0_0 a0_1 a0_2) else (F8.j0 k (a0_0 != 5) a0_0 a0_1 a0_2))=some r:=h;clear h;have HC2:=zh H;clear H
 go_enter Try.func50,Try.ntmps50
 go_upto_region 1 with (first|((with_reducible refine zK (N:=1) rfl ?_);refine zI ?hg (N:=1) ?hd (cs:=#[.int .i64 a0_0,.int .i64 a0_1,.string a0_2]) (t:=25) ?hr ?_;(case hd=>rfl);(case hg=>rfl);(case hr=>go_simp <;> rfl);intro gb331 hg w3 hbox hb;have BK331:=zh (hbox);have hH_:=cH jG hb hg;have GW331:=zh hH_.1;have GE331:=GW331;replace HB:=zh hH_.2;clear hb hbox hg hH_))
 (try simp only [Act.put,zi,zj,zk])
 go_cut [14] (fun v14 wc => ∃ (kq : Nat) (x14_1 : Bool),v14 = .bool x14_1∧Aside0 (F8.j0 kq x14_1 a0_0 a0_1 a0_2=some r)∧Aside0 (kq≤k)∧Aside0 (wc.heap[gb331]? = some (.cells #[.int .i64 a0_0,.int .i64 a0_1,.string a0_2] 25 (0,0)))∧Aside0 (Below w.heap.size w wc))
 case first =>
  have H:=HC2.out;clear HC2
  by_cases c4 : a0_0=4
  ·
   rw [if_pos c4] at H
   have c4b0 : (a0_0 == 4)=true:=ya.mpr c4;have c4b1 : (a0_0 != 4)=false:=zX.mpr c4;clear c4;(first|rw [c4b0]|(simp only [zG,zH];rw [c4b0])|skip);have H':=zh H;clear H;obtain ⟨hcz5_0,hcz5_1,hcz5_2,hfz5_0,hfz5_1,hfz5_2⟩:=cB3 BK331.out
   go_wp2
   go_meet
   case rel=>exact ⟨_,(false),jC,H',⟨jY⟩,⟨jAB⟩,⟨jx⟩⟩
  rw [if_neg c4] at H;have c4b0 : (a0_0 == 4)=false:=zY.mpr c4;have c4b1 : (a0_0 != 4)=true:=zZ.mpr c4;(first|rw [c4b0]|(simp only [zG,zH];rw [c4b0])|skip);have H':=zh H;clear H;obtain ⟨hcz6_0,hcz6_1,hcz6_2,hfz6_0,hfz6_1,hfz6_2⟩:=cB3 BK331.out
  go_wp2
  go_meet
  case rel=>exact ⟨_,((a0_0 != 5)),jC,H',⟨jY⟩,⟨jAB⟩,⟨jx⟩⟩
 case rest =>
  clear HC2
  try clear p2
  try clear c4 c4b0 c4b1 c5
  try clear hcz5_0 hcz5_1 hcz5_2
  try clear hcz6_0 hcz6_1 hcz6_2
  try clear hfz5_0 hfz5_1 hfz5_2
  try clear hfz6_0 hfz6_1 hfz6_2
  obtain ⟨kq,x14_1,rfl,HA,HJ1,BK331,HB⟩:=hcut
  cases kq with
  | zero=>exact absurd HA.out (by simp [F8.j0])
  | succ kj1 =>
   have H:=HA.out;clear HA;simp only [F8.j0] at H
   by_cases c7 : x14_1=true
   ·
    subst c7
    rw [if_pos rfl] at H;obtain rfl:=zU H
    go_wp2
    go_ret
    exact ⟨jF,jx⟩
   replace c7:=yb.mpr c7;subst c7;rw [if_neg (show ¬ (false=true) by decide)] at H;obtain ⟨y332,hy332⟩ : ∃ y_ : List (S25),y_=(([] : List (S25))):=⟨_,rfl⟩;replace H : ((F5.f kj1 a0_0 a0_1 a0_2).bind fun bt335=>(if (bt335.1.length : Int) > 0 then (F8.l0 kj1 0 bt335.1 (bt335.1.length : Int) 0) else (some (0+1))))=some r:=by first|(rw [hy332];with_reducible exact H)|(have H2_:=(Option.bind_some _ _).symm.trans H;rw [hy332];with_reducible exact H2_)|(have H2_:=(Option.bind_some _ _).symm.trans H;with_reducible exact H2_)|with_reducible exact H|(rw [hy332];exact H)|exact H
   have Ny332:=zh hy332;clear hy332;replace H:=zT.mp H;obtain ⟨⟨t335,t338⟩,A80,H⟩:=H;have A8:=zh A80;clear A80
   by_cases c9 : (t335.length : Int) > 0
   ·
    rw [if_pos c9] at H
    have c9b0 : decide (0<(t335.length : Int))=true:=decide_eq_true c9;have c9b1 : decide (0<t335.length)=true:=decide_eq_true jH;clear c9;have H':=zh H;clear H
    go_wp2_with (first|((with_reducible refine zK (N:=15) rfl ?_);refine Kd.R_lit k25 _ 25 ?hg (N:=15) ?hd (xs:=([] : List (S25))) (inner:=[]) (ok:=fun _=>True) (okp:=fun _=>True) ?hr ?hp (fun _ hk=>hk) trivial (Below.refl _ _) (ye _) (by simp) ?_;(case hd=>rfl);(case hg=>rfl);(case hr=>go_simp <;> rfl);(case hp=>exact (Reps.none _ _));intro v333 w10 ho11 hb hg_ hnew_;clear hg_ hnew_;(first|rw [← Ny332.out] at ho11|(simp only [Int.reduceToNat] at ho11;rw [← Ny332.out] at ho11));have HO334:=zh (yy (Kd.R_newB ho11 (g:=gb331) (o:=.cells #[.int .i64 a0_0,.int .i64 a0_1,.string a0_2] 25 (0,0)) jAB) (zB jx));replace BK331:=zh (cD BK331.out jAB hb);replace HB:=zh (zC jx hb);clear hb ho11;obtain ⟨hcz12_0,hcz12_1,hcz12_2,hfz12_0,hfz12_1,hfz12_2⟩:=cB3 BK331.out)|((with_reducible refine zJ (f:=71) rfl ?_);refine yj (some 18) rfl rfl Try.func71 jA rfl #[.agg #[.int .i64 a0_0,.int .i64 a0_1,.string a0_2]] rfl jD ?_;(with_reducible refine (F5.calls kj1  a0_0 a0_1 a0_2 t335 t338 _ A8.out).mono ?_);rintro e w13 ⟨v336,rfl,ho0,hb⟩;refine ⟨_,rfl,?_⟩;have HO337:=zh (yy (Kd.R_newB (Kd.R_new' ho0 (Kd.R_lt jBl)) (g:=gb331) (o:=.cells #[.int .i64 a0_0,.int .i64 a0_1,.string a0_2] 25 (0,0)) jAB) (zB jx));replace HO334:=zh (Kd.R_elder' jBl (Kd.R_base ho0) hb);replace BK331:=zh (cD BK331.out jAB hb);replace HB:=zh (zC jx hb);(try clear hb);(try clear hb2);(try clear hk);(try clear hi);(try clear ho0);obtain ⟨Ao14,co14,eo14⟩:=yk HO337.out;subst eo14))
    go_loopg [3,26] kj1 (fun kq v3 v26 w' => ∃ (x3_2 : Int) (x26_2 : Int),v3 = .int .i64 x3_2∧v26 = .int .i64 x26_2∧Aside0 (F8.l0 kq x3_2 t335 (t335.length : Int) x26_2=some r)∧Aside0 (kq≤kj1)∧Aside0 (Kd.R k25 25 w' w.heap.size (fun k_=>k_≠gb331) (.slice Ao14 t335.length co14) t335)∧Aside0 (w'.heap[gb331]? = some (.cells #[.int .i64 a0_0,.int .i64 a0_1,.string a0_2] 25 (0,0)))∧Aside0 (Below w.heap.size w w'))
    case atStart=>exact ⟨(0),(0),jC,jC,H',⟨ye _⟩,⟨by (with_reducible repeat (first|apply zm|apply zn|apply zo));exact zM HO337.out (fun _ hk=>hk.2)⟩,⟨jAB⟩,⟨jx⟩⟩
    case round =>
     clear H'
     try clear p2
     try clear c4 c4b0 c4b1 c5 c7 c9 c9b0 c9b1
     try clear hcz12_0 hcz12_1 hcz12_2
     try clear hcz5_0 hcz5_1 hcz5_2
     try clear hcz6_0 hcz6_1 hcz6_2
     try clear hfz12_0 hfz12_1 hfz12_2
     try clear hfz5_0 hfz5_1 hfz5_2
     try clear hfz6_0 hfz6_1 hfz6_2
     try clear p2
     obtain ⟨x3_2,x26_2,rfl,rfl,HA,HK2,HO_24,BK331,HB⟩:=hrel
     cases gk with
     | zero=>exact absurd HA.out (by simp [F8.l0])
     | succ k2 =>
      have H:=HA.out;clear HA;simp only [F8.l0] at H
      by_cases c15 : x26_2<(t335.length : Int)
      ·
       rw [if_pos c15] at H
       have c15b0 : decide (x26_2<(t335.length : Int))=true:=decide_eq_true c15;clear c15
       by_cases c16 : 0≤x26_2
       ·
        rw [if_pos c16] at H
        have c16b0 : decide (0≤x26_2)=true:=decide_eq_true c16;clear c16
        by_cases c17 : x26_2<(t335.length : Int)
        ·
         rw [if_pos c17] at H
         have c17b0 : decide (x26_2<(t335.length : Int))=true:=decide_eq_true c17;clear c17;replace H:=zT.mp H;obtain ⟨t341,A180,H⟩:=H;have A18:=zh A180;clear A180;obtain ⟨ji19,hji19⟩ : ∃ j_ : Int,(mx x3_2 t341)=j_:=⟨_,rfl⟩;replace H : (F8.l0 k2 ji19 t335 (t335.length : Int) (wrap64 (x26_2+1)))=some r:=by first|(rw [hji19] at H;exact H)|(simp only [hji19] at H ⊢;exact H)
         (try rw [hji19] at A18);have hji19_ : (if x3_2<t341 then t341 else x3_2)=ji19:=hji19;have H':=zh H;clear H;have p339 : 0≤(x26_2 : Int):=zy jE;have q339 : x26_2<(t335.length : Int):=zy jE;obtain ⟨ad339,e339,hx339_0,hx339_1,hx339_2⟩:=at_T25 (yh HO_24.out).2.2 x26_2 p339 q339
         cases e339
         replace p339:=eq_true p339;replace q339:=eq_true q339
         go_wp2_with (first|((with_reducible refine zK (N:=6) rfl ?_);refine zI ?hg (N:=6) ?hd (cs:=#[.int .i64 0,.int .i64 0,.string (⟨#[]⟩ : ByteArray)]) (t:=25) ?hr ?_;(case hd=>rfl);(case hg=>rfl);(case hr=>go_simp <;> rfl);intro gb340 hg w20 hbox hb;replace HO_24:=zh (yg (Kd.R_elderB (by (with_reducible repeat (first|apply zm|apply zn|apply zo));exact HO_24.out) gb340 (Nat.le_of_eq hg.symm)) hb);have BK340:=zh (hbox);have hH_:=cH jx hb hg;have GW340:=zh hH_.1;have GE340:=GW340;replace HB:=zh hH_.2;have NB331_340:=zh ((by rw [hg];exact yc (yi (g:=gb331) (o:=.cells #[.int .i64 a0_0,.int .i64 a0_1,.string a0_2] 25 (0,0)) jAB) : gb331≠gb340));have NB340_331:=zh NB331_340.out.symm;replace BK331:=zh (cD BK331.out jAB hb);clear hb hbox hg hH_;have hnb21:=NB340_331.out;have hnc21:=NB331_340.out;obtain ⟨hcz22_0,hcz22_1,hcz22_2,hfz22_0,hfz22_1,hfz22_2⟩:=cB3 BK340.out)|((with_reducible refine zJ (f:=50) rfl ?_);refine yj (some 32) rfl rfl Try.func50 jA rfl #[.agg #[.int .i64 ((rd_T25 t335 x26_2).f0),.int .i64 ((rd_T25 t335 x26_2).f1),.string ((rd_T25 t335 x26_2).f2)]] rfl jD ?_;(with_reducible refine (ih k2 jBX  ((rd_T25 t335 x26_2).f0) ((rd_T25 t335 x26_2).f1) ((rd_T25 t335 x26_2).f2) t341 _ A18.out).mono ?_);rintro e w23 ⟨rfl,hb⟩;refine ⟨_,rfl,?_⟩;replace HO_24:=zh (yg (by (with_reducible repeat (first|apply zm|apply zn|apply zo));exact (zM (zE (p:=⟨gb340,2,none⟩) (zE (p:=⟨gb340,1,none⟩) (zE (p:=⟨gb340,0,none⟩) (zM HO_24.out (fun k_ hk=>(⟨hk,hk.2⟩ : _∧k_≠gb340))) (fun _ hk=>hk.2) (.int .i64 ((rd_T25 t335 x26_2).f0))) (fun _ hk=>hk.2) (.int .i64 ((rd_T25 t335 x26_2).f1))) (fun _ hk=>hk.2) (.string ((rd_T25 t335 x26_2).f2))) (fun _ h_=>h_.1))) hb);replace BK331:=zh (cD BK331.out (by (with_reducible repeat first|apply ze|apply zf|apply zg);refine cS3 ?_ NB331_340.out;(with_reducible repeat first|apply ze|apply zf|apply zg);exact BK331.out) hb);replace BK340:=zh (zD (g:=gb340) (o:=.cells #[.int .i64 ((rd_T25 t335 x26_2).f0),.int .i64 ((rd_T25 t335 x26_2).f1),.string ((rd_T25 t335 x26_2).f2)] 25 (0,0)) (by (with_reducible repeat first|apply ze|apply zf|apply zg);refine zL (cs:=#[.int .i64 ((rd_T25 t335 x26_2).f0),.int .i64 ((rd_T25 t335 x26_2).f1),.string (⟨#[]⟩ : ByteArray)]) ?_ 2 _ rfl;(with_reducible repeat first|apply ze|apply zf|apply zg);refine zL (cs:=#[.int .i64 ((rd_T25 t335 x26_2).f0),.int .i64 0,.string (⟨#[]⟩ : ByteArray)]) ?_ 1 _ rfl;(with_reducible repeat first|apply ze|apply zf|apply zg);refine zL (cs:=#[.int .i64 0,.int .i64 0,.string (⟨#[]⟩ : ByteArray)]) ?_ 0 _ rfl;(with_reducible repeat first|apply ze|apply zf|apply zg);exact BK340.out) hb);replace HB:=zh (zC jC6 hb);(try clear hb);(try clear hb2);(try clear hk);(try clear hi)))
         go_roundg k2
         case measure=>have:=HJ1.out;have:=HK2.out;omega
         case rel=>exact ⟨(ji19),(wrap64 (x26_2+1)),(by first|rfl|(simp;done)|(simp only [← hji19] <;> (first|rfl|simp))|(simp [*];done)),jC,H',⟨jBX⟩,⟨by (with_reducible repeat (first|apply zm|apply zn|apply zo));exact zM HO_24.out (fun _ hk=>hk.1)⟩,⟨jAB⟩,⟨jC6⟩⟩
        rw [if_neg c17] at H;exact absurd H (by simp)
       rw [if_neg c16] at H;exact absurd H (by simp)
      rw [if_neg c15] at H;have c15b0 : decide (x26_2<(t335.length : Int))=false:=decide_eq_false c15;clear c15;obtain rfl:=zU H
      go_wp2
      go_ret
      exact ⟨jF,jx⟩
   rw [if_neg c9] at H;have c9b0 : decide (0<(t335.length : Int))=false:=decide_eq_false c9;have c9b1 : decide (0<t335.length)=false:=decide_eq_false jH;clear c9;obtain rfl:=zU H
   go_wp2_with (first|((with_reducible refine zK (N:=15) rfl ?_);refine Kd.R_lit k25 _ 25 ?hg (N:=15) ?hd (xs:=([] : List (S25))) (inner:=[]) (ok:=fun _=>True) (okp:=fun _=>True) ?hr ?hp (fun _ hk=>hk) trivial (Below.refl _ _) (ye _) (by simp) ?_;(case hd=>rfl);(case hg=>rfl);(case hr=>go_simp <;> rfl);(case hp=>exact (Reps.none _ _));intro v333 w24 ho25 hb hg_ hnew_;clear hg_ hnew_;(first|rw [← Ny332.out] at ho25|(simp only [Int.reduceToNat] at ho25;rw [← Ny332.out] at ho25));have HO334:=zh (yy (Kd.R_newB ho25 (g:=gb331) (o:=.cells #[.int .i64 a0_0,.int .i64 a0_1,.string a0_2] 25 (0,0)) jAB) (zB jx));replace BK331:=zh (cD BK331.out jAB hb);replace HB:=zh (zC jx hb);clear hb ho25;obtain ⟨hcz26_0,hcz26_1,hcz26_2,hfz26_0,hfz26_1,hfz26_2⟩:=cB3 BK331.out)|((with_reducible refine zJ (f:=71) rfl ?_);refine yj (some 18) rfl rfl Try.func71 jA rfl #[.agg #[.int .i64 a0_0,.int .i64 a0_1,.string a0_2]] rfl jD ?_;(with_reducible refine (F5.calls kj1  a0_0 a0_1 a0_2 t335 t338 _ A8.out).mono ?_);rintro e w27 ⟨v336,rfl,ho0,hb⟩;refine ⟨_,rfl,?_⟩;have HO337:=zh (yy (Kd.R_newB (Kd.R_new' ho0 (Kd.R_lt jBl)) (g:=gb331) (o:=.cells #[.int .i64 a0_0,.int .i64 a0_1,.string a0_2] 25 (0,0)) jAB) (zB jx));replace HO334:=zh (Kd.R_elder' jBl (Kd.R_base ho0) hb);replace BK331:=zh (cD BK331.out jAB hb);replace HB:=zh (zC jx hb);(try clear hb);(try clear hb2);(try clear hk);(try clear hi);(try clear ho0);obtain ⟨Ao28,co28,eo28⟩:=yk HO337.out;subst eo28))
   go_ret
   exact ⟨jF,jx⟩

end Go.Proofs.Ytoinoihiknmnmaa.Q
end
section
namespace Go.Proofs.Ytoinoihiknmnmaa.Q
open Go.RowKit Go.Proofs.YtoinoihiknmnmaaW.PrintWords Go.Proofs.YtoinoihiknmnmaaW.PrintLast Go.Proofs.YtoinoihiknmnmaaW.PrintMore
attribute [local go_sem] max2_int min2_int max_two min_two max_three min_three max_four min_four max2_str min2_str str_geq str_gtr str_leq
set_option linter.unusedVariables false
set_option linter.unusedSimpArgs false

def F0c.f (k : Nat) (a0_0 : Int) (a0_1 : Int) (a0_2 : ByteArray) : Option (Int×Int×ByteArray×Int):=if (a0_2.size : Int) > 300 then (some (0,0,(⟨#[]⟩ : ByteArray),10)) else ((F8.f k a0_0 a0_1 a0_2).bind fun t344=>(if t344 > 5 then (some (0,0,(⟨#[]⟩ : ByteArray),9)) else (some (a0_0,a0_1,a0_2,0))))
theorem F0c.mono : ∀ a0 a1 a2 k,LeO (F0c.f k a0 a1 a2) (F0c.f (k+1) a0 a1 a2):=by
 intro a0 a1 a2 k;unfold F0c.f
 repeat' first|(with_reducible first|exact F8.mono _ _ _ _|exact zQ _|exact zN _|refine zP ?_ ?_|refine zO ?_ (fun _=>?_))|refine zP ?_ ?_|refine zO ?_ (fun _=>?_)
set_option maxHeartbeats 8000000 in
set_option maxRecDepth 100000 in
theorem F0c.calls (k : Nat) (a0_0 : Int) (a0_1 : Int) (a0_2 : ByteArray) (r1 : Int) (r2 : Int) (r3 : ByteArray) (r4 : Int) (w : World) (h : F0c.f k a0_0 a0_1 a0_2=some (r1,r2,r3,r4)) :
  Calls Try.prog 28 #[.agg #[.int .i64 a0_0,.int .i64 a0_1,.string a0_2]] w fun e w' => e = .returned (.tuple #[.agg #[.int .i64 r1,.int .i64 r2,.string r3],.int .i64 r4])∧Below w.heap.size w w':=by
 have hu25:=Try.underlying25;have HB:=zh (Below.refl w.heap.size w);have H : (if (a0_2.size : Int) > 300 then (some (0,0,(⟨#[]⟩ : ByteArray),10)) else ((F8.f k a0_0 a0_1 a0_2).bind fun t344=>(if t344 > 5 then (some (0,0,(⟨#[]⟩ : ByteArray),9)) else (some (a0_0,a0_1,a0_2,0)))))=some (r1,r2,r3,r4):=h;clear h
 by_cases c2 : (a0_2.size : Int) > 300
 ·
  rw [if_pos c2] at H
  have c2b0 : decide (300<(a0_2.size : Int))=true:=decide_eq_true c2;have c2b1 : decide (300<a0_2.size)=true:=decide_eq_true jH;clear c2;simp only [Option.some.injEq,Prod.mk.injEq] at H;obtain ⟨rfl,rfl,rfl,rfl⟩:=H
  go_enter Try.func28,Try.ntmps28
  go_wp2_with (first|((with_reducible refine zK (N:=1) rfl ?_);refine zI ?hg (N:=1) ?hd (cs:=#[.int .i64 a0_0,.int .i64 a0_1,.string a0_2]) (t:=25) ?hr ?_;(case hd=>rfl);(case hg=>rfl);(case hr=>go_simp <;> rfl);intro gb342 hg w3 hbox hb;have BK342:=zh (hbox);have hH_:=cH jG hb hg;have GW342:=zh hH_.1;have GE342:=GW342;replace HB:=zh hH_.2;clear hb hbox hg hH_)|((with_reducible refine zK (N:=2) rfl ?_);refine zI ?hg (N:=2) ?hd (cs:=#[.int .i64 0,.int .i64 0,.string (⟨#[]⟩ : ByteArray)]) (t:=25) ?hr ?_;(case hd=>rfl);(case hg=>rfl);(case hr=>go_simp <;> rfl);intro gb343 hg w4 hbox hb;have BK343:=zh (hbox);have hH_:=cH jCN hb hg;have GW343:=zh hH_.1;have GE343:=GW343;replace HB:=zh hH_.2;have NB342_343:=zh ((jCO : gb342≠gb343));have NB343_342:=zh NB342_343.out.symm;replace BK342:=zh (cD BK342.out jA9 hb);clear hb hbox hg hH_;have hnb5:=NB342_343.out;have hnc5:=NB343_342.out;obtain ⟨hcz6_0,hcz6_1,hcz6_2,hfz6_0,hfz6_1,hfz6_2⟩:=cB3 BK342.out;obtain ⟨hcz7_0,hcz7_1,hcz7_2,hfz7_0,hfz7_1,hfz7_2⟩:=cB3 BK343.out))
  refine bodyPost_ret (results_ct rfl _ _ gb343 25 #[.int .i64 0,.int .i64 0,.string (⟨#[]⟩ : ByteArray)] (0,0) _ rfl jC7 Try.underlying25 rfl jA) rfl ?_;exact ⟨jF,jBP⟩
 rw [if_neg c2] at H;have c2b0 : decide (300<(a0_2.size : Int))=false:=decide_eq_false c2;have c2b1 : decide (300<a0_2.size)=false:=decide_eq_false jH;clear c2;replace H:=zT.mp H;obtain ⟨t344,A80,H⟩:=H;have A8:=zh A80;clear A80
 by_cases c9 : t344 > 5
 ·
  rw [if_pos c9] at H
  have c9b0 : decide (5<t344)=true:=decide_eq_true c9;clear c9;simp only [Option.some.injEq,Prod.mk.injEq] at H;obtain ⟨rfl,rfl,rfl,rfl⟩:=H
  go_enter Try.func28,Try.ntmps28
  go_wp2_with (first|((with_reducible refine zK (N:=1) rfl ?_);refine zI ?hg (N:=1) ?hd (cs:=#[.int .i64 a0_0,.int .i64 a0_1,.string a0_2]) (t:=25) ?hr ?_;(case hd=>rfl);(case hg=>rfl);(case hr=>go_simp <;> rfl);intro gb342 hg w10 hbox hb;have BK342:=zh (hbox);have hH_:=cH jG hb hg;have GW342:=zh hH_.1;have GE342:=GW342;replace HB:=zh hH_.2;clear hb hbox hg hH_)|((with_reducible refine zK (N:=2) rfl ?_);refine zI ?hg (N:=2) ?hd (cs:=#[.int .i64 0,.int .i64 0,.string (⟨#[]⟩ : ByteArray)]) (t:=25) ?hr ?_;(case hd=>rfl);(case hg=>rfl);(case hr=>go_simp <;> rfl);intro gb343 hg w11 hbox hb;have BK343:=zh (hbox);have hH_:=cH jCN hb hg;have GW343:=zh hH_.1;have GE343:=GW343;replace HB:=zh hH_.2;have NB342_343:=zh ((jCO : gb342≠gb343));have NB343_342:=zh NB342_343.out.symm;replace BK342:=zh (cD BK342.out jA9 hb);clear hb hbox hg hH_;have hnb12:=NB342_343.out;have hnc12:=NB343_342.out;obtain ⟨hcz13_0,hcz13_1,hcz13_2,hfz13_0,hfz13_1,hfz13_2⟩:=cB3 BK342.out)|((with_reducible refine zJ (f:=50) rfl ?_);refine yj (some 12) rfl rfl Try.func50 jA rfl #[.agg #[.int .i64 a0_0,.int .i64 a0_1,.string a0_2]] rfl jD ?_;(with_reducible refine (F8.calls k  a0_0 a0_1 a0_2 t344 _ A8.out).mono ?_);rintro e w14 ⟨rfl,hb⟩;refine ⟨_,rfl,?_⟩;replace BK342:=zh (cD BK342.out jA9 hb);replace BK343:=zh (cD BK343.out jC8 hb);replace HB:=zh (zC jBP hb);(try clear hb);(try clear hb2);(try clear hk);(try clear hi);obtain ⟨hcz15_0,hcz15_1,hcz15_2,hfz15_0,hfz15_1,hfz15_2⟩:=cB3 BK343.out))
  refine bodyPost_ret (results_ct rfl _ _ gb343 25 #[.int .i64 0,.int .i64 0,.string (⟨#[]⟩ : ByteArray)] (0,0) _ rfl jC7 Try.underlying25 rfl jA) rfl ?_;exact ⟨jF,jBP⟩
 rw [if_neg c9] at H;have c9b0 : decide (5<t344)=false:=decide_eq_false c9;clear c9;simp only [Option.some.injEq,Prod.mk.injEq] at H;obtain ⟨rfl,rfl,rfl,rfl⟩:=H
 go_enter Try.func28,Try.ntmps28
 go_wp2_with (first|((with_reducible refine zK (N:=1) rfl ?_);refine zI ?hg (N:=1) ?hd (cs:=#[.int .i64 a0_0,.int .i64 a0_1,.string a0_2]) (t:=25) ?hr ?_;(case hd=>rfl);(case hg=>rfl);(case hr=>go_simp <;> rfl);intro gb342 hg w16 hbox hb;have BK342:=zh (hbox);have hH_:=cH jG hb hg;have GW342:=zh hH_.1;have GE342:=GW342;replace HB:=zh hH_.2;clear hb hbox hg hH_)|((with_reducible refine zK (N:=2) rfl ?_);refine zI ?hg (N:=2) ?hd (cs:=#[.int .i64 0,.int .i64 0,.string (⟨#[]⟩ : ByteArray)]) (t:=25) ?hr ?_;(case hd=>rfl);(case hg=>rfl);(case hr=>go_simp <;> rfl);intro gb343 hg w17 hbox hb;have BK343:=zh (hbox);have hH_:=cH jCN hb hg;have GW343:=zh hH_.1;have GE343:=GW343;replace HB:=zh hH_.2;have NB342_343:=zh ((jCO : gb342≠gb343));have NB343_342:=zh NB342_343.out.symm;replace BK342:=zh (cD BK342.out jA9 hb);clear hb hbox hg hH_;have hnb18:=NB342_343.out;have hnc18:=NB343_342.out;obtain ⟨hcz19_0,hcz19_1,hcz19_2,hfz19_0,hfz19_1,hfz19_2⟩:=cB3 BK342.out)|((with_reducible refine zJ (f:=50) rfl ?_);refine yj (some 12) rfl rfl Try.func50 jA rfl #[.agg #[.int .i64 a0_0,.int .i64 a0_1,.string a0_2]] rfl jD ?_;(with_reducible refine (F8.calls k  a0_0 a0_1 a0_2 t344 _ A8.out).mono ?_);rintro e w20 ⟨rfl,hb⟩;refine ⟨_,rfl,?_⟩;replace BK342:=zh (cD BK342.out jA9 hb);replace BK343:=zh (cD BK343.out jC8 hb);replace HB:=zh (zC jBP hb);(try clear hb);(try clear hb2);(try clear hk);(try clear hi);obtain ⟨hcz21_0,hcz21_1,hcz21_2,hfz21_0,hfz21_1,hfz21_2⟩:=cB3 BK342.out;obtain ⟨hcz22_0,hcz22_1,hcz22_2,hfz22_0,hfz22_1,hfz22_2⟩:=cB3 BK343.out))
 refine bodyPost_ret (results_ct rfl _ _ gb343 25 #[.int .i64 a0_0,.int .i64 a0_1,.string a0_2] (0,0) _ rfl (by (with_reducible repeat first|apply ze|apply zf|apply zg);refine zL (cs:=#[.int .i64 a0_0,.int .i64 a0_1,.string (⟨#[]⟩ : ByteArray)]) ?_ 2 _ rfl;(with_reducible repeat first|apply ze|apply zf|apply zg);refine zL (cs:=#[.int .i64 a0_0,.int .i64 0,.string (⟨#[]⟩ : ByteArray)]) ?_ 1 _ rfl;(with_reducible repeat first|apply ze|apply zf|apply zg);refine zL (cs:=#[.int .i64 0,.int .i64 0,.string (⟨#[]⟩ : ByteArray)]) ?_ 0 _ rfl;(with_reducible repeat first|apply ze|apply zf|apply zg);exact BK343.out) Try.underlying25 rfl jA) rfl ?_;exact ⟨jF,jBP⟩


def F0j.f (G : Int→Int→ByteArray→Int→Option (Bool)) (a0_0 : Int) (a0_1 : Int) (a0_2 : ByteArray) (a1_0 : Int) : Option (Bool):=(G a0_0 a0_1 a0_2 (wrap64 (a1_0 - 1))).bind fun t312=>(some (!t312))
theorem F0j.mono : ∀ (G G' : Int→Int→ByteArray→Int→Option (Bool)) (hG : ∀ y0 y1 y2 y3,LeO (G y0 y1 y2 y3) (G' y0 y1 y2 y3)),∀ a0 a1 a2 a3,LeO (F0j.f G a0 a1 a2 a3) (F0j.f G' a0 a1 a2 a3):=by
 intro G G' hG a0 a1 a2 a3;unfold F0j.f
 repeat' first|(with_reducible first|exact hG _ _ _ _|exact zQ _|exact zN _|refine zP ?_ ?_|refine zO ?_ (fun _=>?_))|refine zP ?_ ?_|refine zO ?_ (fun _=>?_)
set_option maxHeartbeats 8000000 in
set_option maxRecDepth 100000 in
theorem F0j.calls (G : Int→Int→ByteArray→Int→Option (Bool)) (hG : ∀ (a0_0 : Int) (a0_1 : Int) (a0_2 : ByteArray) (a1 : Int) (r : Bool) (w : World) (h : G a0_0 a0_1 a0_2 a1=some r),Calls Try.prog 48 #[.agg #[.int .i64 a0_0,.int .i64 a0_1,.string a0_2],.int .i64 a1] w fun e w' => e = .returned (.bool r)∧Below w.heap.size w w') (a0_0 : Int) (a0_1 : Int) (a0_2 : ByteArray) (g1_0_ : Nat) (a1_0 : Int) (r : Bool) (w : World) (hb1_0_ : w.heap[g1_0_]? = some (.cells #[.int .i64 a1_0] 3 (0,0))) (h : F0j.f G a0_0 a0_1 a0_2 a1_0=some r) :
  Calls Try.prog 72 #[.agg #[.int .i64 a0_0,.int .i64 a0_1,.string a0_2],.pointer (some ⟨g1_0_,0,none⟩)] w fun e w' => e = .returned (.bool r)∧Below w.heap.size w w':=by
 have hu25:=Try.underlying25;have BK910:=zh hb1_0_;clear hb1_0_;have HB:=zh (Below.refl w.heap.size w);have H : ((G a0_0 a0_1 a0_2 (wrap64 (a1_0 - 1))).bind fun t312=>(some (!t312)))=some r:=h;clear h;replace H:=zT.mp H;obtain ⟨t312,A30,H⟩:=H;have A3:=zh A30;clear A30;obtain rfl:=zU H
 go_enter Try.func72,Try.ntmps72
 go_wp2_with (first|((with_reducible refine zK (N:=2) rfl ?_);refine zI ?hg (N:=2) ?hd (cs:=#[.int .i64 a0_0,.int .i64 a0_1,.string a0_2]) (t:=25) ?hr ?_;(case hd=>rfl);(case hg=>rfl);(case hr=>go_simp <;> rfl);intro gb311 hg w4 hbox hb;have BK311:=zh (hbox);have hH_:=cH jAd hb hg;have GW311:=zh hH_.1;have GE311:=GW311;replace HB:=zh hH_.2;have NB910_311:=zh ((by rw [hg];exact yc (yi (g:=g1_0_) (o:=.cells #[.int .i64 a1_0] 3 (0,0)) jAe) : g1_0_≠gb311));have NB311_910:=zh ((by rw [hg];exact yd (yi (g:=g1_0_) (o:=.cells #[.int .i64 a1_0] 3 (0,0)) jAe) : gb311≠g1_0_));replace BK910:=zh (zD (g:=g1_0_) (o:=.cells #[.int .i64 a1_0] 3 (0,0)) jAe hb);clear hb hbox hg hH_;have hnb5:=NB311_910.out;have hnc5:=NB910_311.out;obtain ⟨hcz6_0,hcz6_1,hcz6_2,hfz6_0,hfz6_1,hfz6_2⟩:=cB3 BK311.out;have hcz7_0 : w4.cell? ⟨g1_0_,0,none⟩=some (.int .i64 a1_0):=(zz BK910.out 0).trans rfl;have hfz7_0:=zA BK910.out 0)|((with_reducible refine zJ (f:=48) rfl ?_);refine yj (some 7) rfl rfl Try.func48 jA rfl #[.agg #[.int .i64 a0_0,.int .i64 a0_1,.string a0_2],.int .i64 (wrap64 (a1_0 - 1))] rfl jD ?_;(with_reducible refine (hG a0_0 a0_1 a0_2 (wrap64 (a1_0 - 1)) t312 _ A3.out).mono ?_);rintro e w8 ⟨rfl,hb⟩;refine ⟨_,rfl,?_⟩;replace BK910:=zh (zD (g:=g1_0_) (o:=.cells #[.int .i64 a1_0] 3 (0,0)) jAe hb);replace BK311:=zh (cD BK311.out (by (with_reducible repeat first|apply ze|apply zf|apply zg);exact BK311.out) hb);replace HB:=zh (zC jC9 hb);(try clear hb);(try clear hb2);(try clear hk);(try clear hi)))
 go_ret
 exact ⟨jF,jC9⟩


def F03.l0 (G : Int→Int→ByteArray→Int→Option (Bool)) : Nat→List (S25)→Int→Int→Int→Option (Int)
 | 0,_,_,_,_=>none
 | k+1,x0,x7,x8,x911000=>if x8<x7 then (if 0≤x8 then (if x8<(x0.length : Int) then ((F0j.f G ((rd_T25 x0 x8).f0) ((rd_T25 x0 x8).f1) ((rd_T25 x0 x8).f2) x911000).bind fun t314=>(if t314=true then (some x8) else (F03.l0 G k x0 x7 (wrap64 (x8+1)) x911000))) else (none)) else (none)) else (some (-1))
def F03.f (k : Nat) (G : Int→Int→ByteArray→Int→Option (Bool)) (l0 : List (S25)) (a1_0 : Int) : Option (Int):=F03.l0 G k l0 (l0.length : Int) 0 a1_0
theorem F03.mono_l : ∀ (G G' : Int→Int→ByteArray→Int→Option (Bool)) (hG : ∀ y0 y1 y2 y3,LeO (G y0 y1 y2 y3) (G' y0 y1 y2 y3)),∀ k,(∀ y0 y1 y2 y3,LeO (F03.l0 G k y0 y1 y2 y3) (F03.l0 G' (k+1) y0 y1 y2 y3))
 | G,G',hG,0=>fun _ _ _ _ r h=>by simp [F03.l0] at h
 | G,G',hG,k+1=>by
  have ih0:=F03.mono_l G G' hG k;intro y0 y1 y2 y3;unfold F03.l0
  repeat' first|(with_reducible first|exact ih0 _ _ _ _|exact hG _ _ _ _|exact F0j.mono _ _ hG _ _ _ _|exact zQ _|exact zN _|refine zP ?_ ?_|refine zO ?_ (fun _=>?_))|refine zP ?_ ?_|refine zO ?_ (fun _=>?_)
theorem F03.mono : ∀ (G G' : Int→Int→ByteArray→Int→Option (Bool)) (hG : ∀ y0 y1 y2 y3,LeO (G y0 y1 y2 y3) (G' y0 y1 y2 y3)),∀ a0 a1 k,LeO (F03.f k G a0 a1) (F03.f (k+1) G' a0 a1):=by
 intro G G' hG a0 a1 k;have ih0:=F03.mono_l G G' hG k;unfold F03.f
 repeat' first|(with_reducible first|exact ih0 _ _ _ _|exact hG _ _ _ _|exact F0j.mono _ _ hG _ _ _ _|exact zQ _|exact zN _|refine zP ?_ ?_|refine zO ?_ (fun _=>?_))|refine zP ?_ ?_|refine zO ?_ (fun _=>?_)
set_option maxHeartbeats 8000000 in
set_option maxRecDepth 100000 in
theorem F03.calls (k : Nat) (G : Int→Int→ByteArray→Int→Option (Bool)) (hG : ∀ (a0_0 : Int) (a0_1 : Int) (a0_2 : ByteArray) (a1 : Int) (r : Bool) (w : World) (h : G a0_0 a0_1 a0_2 a1=some r),Calls Try.prog 48 #[.agg #[.int .i64 a0_0,.int .i64 a0_1,.string a0_2],.int .i64 a1] w fun e w' => e = .returned (.bool r)∧Below w.heap.size w w') (A0 : Option Addr) (c0 : Nat) (l0 : List (S25)) (g1_0_ : Nat) (a1_0 : Int) (r : Int) (w : World) (hr0 : Kd.C k25 w A0 l0.length l0) (hc0 : l0.length≤c0) (hb1_0_ : w.heap[g1_0_]? = some (.cells #[.int .i64 a1_0] 3 (0,0))) (h : F03.f k G l0 a1_0=some r) :
  Calls Try.prog 78 #[.slice A0 l0.length c0,.func (.func 72) #[] #[.pointer (some ⟨g1_0_,0,none⟩)]] w fun e w' => e = .returned (.int .i64 r)∧Below w.heap.size w w':=by
 have hu25:=Try.underlying25;have HR0:=zh hr0;have HC0:=zh hc0;clear hr0 hc0;have BK910:=zh hb1_0_;clear hb1_0_;have HB:=zh (Below.refl w.heap.size w);have H : (F03.l0 G k l0 (l0.length : Int) 0 a1_0)=some r:=h;clear h;have H':=zh H;clear H
 go_enter Try.func78,Try.ntmps78
 go_wp2
 go_loopg [8] k (fun kq v8 w' => ∃ (x8_1 : Int),v8 = .int .i64 x8_1∧Aside0 (F03.l0 G kq l0 (l0.length : Int) x8_1 a1_0=some r)∧Aside0 (kq≤k)∧Aside0 (w'.heap[g1_0_]? = some (.cells #[.int .i64 a1_0] 3 (0,0)))∧Aside0 (Below w.heap.size w w'))
 case atStart=>exact ⟨(0),jC,H',⟨ye _⟩,⟨jAe⟩,⟨jAd⟩⟩
 case round =>
  clear H'
  try clear p2
  obtain ⟨x8_1,rfl,HA,HK1,BK910,HB⟩:=hrel
  cases gk with
  | zero=>exact absurd HA.out (by simp [F03.l0])
  | succ k1 =>
   have H:=HA.out;clear HA;simp only [F03.l0] at H
   by_cases c3 : x8_1<(l0.length : Int)
   ·
    rw [if_pos c3] at H
    have c3b0 : decide (x8_1<(l0.length : Int))=true:=decide_eq_true c3;clear c3
    by_cases c4 : 0≤x8_1
    ·
     rw [if_pos c4] at H
     have c4b0 : decide (0≤x8_1)=true:=decide_eq_true c4;clear c4
     by_cases c5 : x8_1<(l0.length : Int)
     ·
      rw [if_pos c5] at H
      have c5b0 : decide (x8_1<(l0.length : Int))=true:=decide_eq_true c5;clear c5;replace H:=zT.mp H;obtain ⟨t314,A60,H⟩:=H;have A6:=zh A60;clear A60
      by_cases c7 : t314=true
      ·
       subst c7
       rw [if_pos rfl] at H;obtain rfl:=zU H;have p313 : 0≤(x8_1 : Int):=zy jE;have q313 : x8_1<(l0.length : Int):=zy jE;obtain ⟨ad313,e313,hx313_0,hx313_1,hx313_2⟩:=at_T25 HR0.out x8_1 p313 q313
       cases e313
       replace hx313_0:=(HB.out.cell (zl w _ hx313_0)).trans hx313_0;replace hx313_1:=(HB.out.cell (zl w _ hx313_1)).trans hx313_1;replace hx313_2:=(HB.out.cell (zl w _ hx313_2)).trans hx313_2;replace p313:=eq_true p313;replace q313:=eq_true q313
       go_wp2_with (first|(go_at_call 72;(with_reducible refine (F0j.calls G hG ((rd_T25 l0 x8_1).f0) ((rd_T25 l0 x8_1).f1) ((rd_T25 l0 x8_1).f2) g1_0_ a1_0 true _ ?side1 A6.out).mono ?_);(case side1=>(with_reducible repeat first|apply ze|apply zf|apply zg);exact BK910.out);rintro e w8 ⟨rfl,hb⟩;replace BK910:=zh (zD (g:=g1_0_) (o:=.cells #[.int .i64 a1_0] 3 (0,0)) jAe hb);replace HB:=zh (zC jAd hb);(try clear hb);(try clear hb2);(try clear hk);(try clear hi)))
       go_ret
       exact ⟨jF,jAd⟩
      replace c7:=yb.mpr c7;subst c7;rw [if_neg (show ¬ (false=true) by decide)] at H;have H':=zh H;clear H;have p313 : 0≤(x8_1 : Int):=zy jE;have q313 : x8_1<(l0.length : Int):=zy jE;obtain ⟨ad313,e313,hx313_0,hx313_1,hx313_2⟩:=at_T25 HR0.out x8_1 p313 q313
      cases e313
      replace hx313_0:=(HB.out.cell (zl w _ hx313_0)).trans hx313_0;replace hx313_1:=(HB.out.cell (zl w _ hx313_1)).trans hx313_1;replace hx313_2:=(HB.out.cell (zl w _ hx313_2)).trans hx313_2;replace p313:=eq_true p313;replace q313:=eq_true q313
      go_wp2_with (first|(go_at_call 72;(with_reducible refine (F0j.calls G hG ((rd_T25 l0 x8_1).f0) ((rd_T25 l0 x8_1).f1) ((rd_T25 l0 x8_1).f2) g1_0_ a1_0 false _ ?side1 A6.out).mono ?_);(case side1=>(with_reducible repeat first|apply ze|apply zf|apply zg);exact BK910.out);rintro e w9 ⟨rfl,hb⟩;replace BK910:=zh (zD (g:=g1_0_) (o:=.cells #[.int .i64 a1_0] 3 (0,0)) jAe hb);replace HB:=zh (zC jAd hb);(try clear hb);(try clear hb2);(try clear hk);(try clear hi)))
      go_roundg k1
      case measure=>have:=HK1.out;omega
      case rel=>exact ⟨(wrap64 (x8_1+1)),jC,H',⟨jZ⟩,⟨jAe⟩,⟨jAd⟩⟩
     rw [if_neg c5] at H;exact absurd H (by simp)
    rw [if_neg c4] at H;exact absurd H (by simp)
   rw [if_neg c3] at H;have c3b0 : decide (x8_1<(l0.length : Int))=false:=decide_eq_false c3;clear c3;obtain rfl:=zU H
   go_wp2
   go_ret
   exact ⟨jF,jAd⟩


def Ff.f (k : Nat) (G : Int→Int→ByteArray→Int→Option (Bool)) (l0 : List (S25)) (a1_0 : Int) : Option (Bool):=(F03.f k G l0 a1_0).bind fun t315=>(some (decide (t315 ≥ 0)))
theorem Ff.mono : ∀ (G G' : Int→Int→ByteArray→Int→Option (Bool)) (hG : ∀ y0 y1 y2 y3,LeO (G y0 y1 y2 y3) (G' y0 y1 y2 y3)),∀ a0 a1 k,LeO (Ff.f k G a0 a1) (Ff.f (k+1) G' a0 a1):=by
 intro G G' hG a0 a1 k;unfold Ff.f
 repeat' first|(with_reducible first|exact hG _ _ _ _|exact F03.mono _ _ hG _ _ _|exact zQ _|exact zN _|refine zP ?_ ?_|refine zO ?_ (fun _=>?_))|refine zP ?_ ?_|refine zO ?_ (fun _=>?_)
set_option maxHeartbeats 8000000 in
set_option maxRecDepth 100000 in
theorem Ff.calls (k : Nat) (G : Int→Int→ByteArray→Int→Option (Bool)) (hG : ∀ (a0_0 : Int) (a0_1 : Int) (a0_2 : ByteArray) (a1 : Int) (r : Bool) (w : World) (h : G a0_0 a0_1 a0_2 a1=some r),Calls Try.prog 48 #[.agg #[.int .i64 a0_0,.int .i64 a0_1,.string a0_2],.int .i64 a1] w fun e w' => e = .returned (.bool r)∧Below w.heap.size w w') (A0 : Option Addr) (c0 : Nat) (l0 : List (S25)) (g1_0_ : Nat) (a1_0 : Int) (r : Bool) (w : World) (hr0 : Kd.C k25 w A0 l0.length l0) (hc0 : l0.length≤c0) (hb1_0_ : w.heap[g1_0_]? = some (.cells #[.int .i64 a1_0] 3 (0,0))) (h : Ff.f k G l0 a1_0=some r) :
  Calls Try.prog 57 #[.slice A0 l0.length c0,.func (.func 72) #[] #[.pointer (some ⟨g1_0_,0,none⟩)]] w fun e w' => e = .returned (.bool r)∧Below w.heap.size w w':=by
 have HR0:=zh hr0;have HC0:=zh hc0;clear hr0 hc0;have BK910:=zh hb1_0_;clear hb1_0_;have HB:=zh (Below.refl w.heap.size w);have H : ((F03.f k G l0 a1_0).bind fun t315=>(some (decide (t315 ≥ 0))))=some r:=h;clear h;replace H:=zT.mp H;obtain ⟨t315,A30,H⟩:=H;have A3:=zh A30;clear A30;obtain rfl:=zU H
 go_enter Try.func57,Try.ntmps57
 go_wp2_with (first|((with_reducible refine zJ (f:=78) rfl ?_);refine yj (some 7) rfl rfl Try.func78 jA rfl #[.slice A0 l0.length c0,.func (.func 72) #[] #[.pointer (some ⟨g1_0_,0,none⟩)]] rfl jD ?_;(with_reducible refine (F03.calls k G hG _ _ l0 g1_0_ a1_0 t315 _ ?side1 ?side2 ?side3 A3.out).mono ?_);(case side1=>repeat (first|exact HR0.out|(with_reducible refine Kd.C_alloc ?_ _)|(with_reducible refine Kd.C_drewN ?_ _)|(with_reducible refine Kd.C_drew ?_)));(case side2=>exact HC0.out);(case side3=>(with_reducible repeat first|apply ze|apply zf|apply zg);exact BK910.out);rintro e w4 ⟨rfl,hb⟩;refine ⟨_,rfl,?_⟩;replace BK910:=zh (zD (g:=g1_0_) (o:=.cells #[.int .i64 a1_0] 3 (0,0)) jAe hb);replace HB:=zh (zC jAd hb);(try clear hb);(try clear hb2);(try clear hk);(try clear hi)))
 go_ret
 exact ⟨jF,jAd⟩


def F0s.f (a0 : Int) : Option (Bool):=(F0h.f a0 (-1000000000000) 1000000000000).bind fun t221=>(some t221)
set_option maxHeartbeats 8000000 in
set_option maxRecDepth 100000 in
theorem F0s.calls (a0 : Int) (r : Bool) (w : World) (h : F0s.f a0=some r) :
  Calls Try.prog 70 #[.int .i64 a0] w fun e w' => e = .returned (.bool r)∧Drawn0 w w':=by
 have H : ((F0h.f a0 (-1000000000000) 1000000000000).bind fun t221=>(some t221))=some r:=h;clear h;replace H:=zT.mp H;obtain ⟨t221,A20,H⟩:=H;have A2:=zh A20;clear A20;obtain rfl:=zU H
 go_enter Try.func70,Try.ntmps70
 go_wp2_with (first|((with_reducible refine zJ (f:=69) rfl ?_);refine yj (some 4) rfl rfl Try.func69 jA rfl #[.int .i64 a0,.int .i64 (-1000000000000),.int .i64 1000000000000] rfl jD ?_;(with_reducible refine (F0h.calls  a0 (-1000000000000) 1000000000000 t221 _ A2.out).mono ?_);rintro e w' ⟨rfl,⟨nd,rfl⟩⟩;refine ⟨_,rfl,?_⟩))
 go_ret
 exact ⟨jC,jK⟩


theorem eqA25 (d : Nat) (w : World) (x0 y0 : Int) (x1 y1 : Int) (x2 y2 : ByteArray) :
  (Op.equalIn (d+2) 25 (.agg #[.int .i64 x0,.int .i64 x1,.string x2]) (.agg #[.int .i64 y0,.int .i64 y1,.string y2])).run Try.prog w = .ok (x0 == y0 && (x1 == y1 && (x2.toList == y2.toList))) w:=by
 refine eqA_of Try.underlying25 jA ?_;refine eqf_cons (by rfl) jAk jAk (by go_simp) ?_;refine eqf_cons (by rfl) jAk jAk (by go_simp) ?_;exact eqf_last (by rfl) jAk jAk (by go_simp)
end Go.Proofs.Ytoinoihiknmnmaa.Q
end
section
namespace Go.Proofs.Ytoinoihiknmnmaa.Q
open Go.RowKit Go.Proofs.YtoinoihiknmnmaaW.PrintWords Go.Proofs.YtoinoihiknmnmaaW.PrintLast Go.Proofs.YtoinoihiknmnmaaW.PrintMore
attribute [local go_sem] max2_int min2_int max_two min_two max_three min_three max_four min_four max2_str min2_str str_geq str_gtr str_leq   -- for this text's walks alone
set_option linter.unusedVariables false
set_option linter.unusedSimpArgs false

attribute [local go_sem high] eqA25
mutual
def F6.j0 : Nat→Bool→Int→Int→ByteArray→Int→Option (Bool)
 | 0,_,_,_,_,_=>none
 | k+1,x45,x317000,x317001,x317002,x318000=>if x45=true then ((F5.f k x317000 x317001 x317002).bind fun bt320=>(if x317001=0 then (if (x317002.size : Int)≤300 then (if x318000 > 0 then (if bt320.2=true then ((Ff.f k (F6.f k) bt320.1 x318000).bind fun t324=>(some (!t324))) else (some false)) else (some false)) else (some false)) else (some false))) else (some false)
def F6.f : Nat→Int→Int→ByteArray→Int→Option (Bool)
 | 0,_,_,_,_=>none
 | k+1,a0_0,a0_1,a0_2,a1=>if a0_0=0 then (some (a0_0 == 0 && (a0_1 == 0 && (a0_2.toList == ([] : List UInt8))))) else (if a0_0=1 then ((F0h.f a0_1 0 1).bind fun t318=>(if t318=true then (some (a0_2.toList == ([] : List UInt8))) else (some false))) else (if a0_0=2 then ((F0s.f a0_1).bind fun t319=>(if t319=true then (some (a0_2.toList == ([] : List UInt8))) else (some false))) else (if a0_0=3 then (if a0_1=0 then (some (decide ((a0_2.size : Int)≤300))) else (some false)) else (if a0_0=4 then (F6.j0 k (a0_0 == 4) a0_0 a0_1 a0_2 a1) else (F6.j0 k (a0_0 == 5) a0_0 a0_1 a0_2 a1)))))
end
theorem F6.mono_l : ∀ k,(∀ y0 y1 y2 y3,LeO (F6.f k y0 y1 y2 y3) (F6.f (k+1) y0 y1 y2 y3))∧(∀ y0 y1 y2 y3 y4,LeO (F6.j0 k y0 y1 y2 y3 y4) (F6.j0 (k+1) y0 y1 y2 y3 y4))
 | 0=>⟨fun _ _ _ _ r h=>by simp [F6.f] at h,fun _ _ _ _ _ r h=>by simp [F6.j0] at h⟩
 | k+1=>by
  obtain ⟨ih0,ih1⟩:=F6.mono_l k;refine ⟨?_,?_⟩
  ·
   intro y0 y1 y2 y3
   unfold F6.f
   repeat' first|(with_reducible first|exact ih0 _ _ _ _|exact ih1 _ _ _ _ _|exact F5.mono _ _ _ _|exact Ff.mono _ _ ih0 _ _ _|exact zQ _|exact zN _|refine zP ?_ ?_|refine zO ?_ (fun _=>?_))|refine zP ?_ ?_|refine zO ?_ (fun _=>?_)
  intro y0 y1 y2 y3 y4;unfold F6.j0
  repeat' first|(with_reducible first|exact ih0 _ _ _ _|exact ih1 _ _ _ _ _|exact F5.mono _ _ _ _|exact Ff.mono _ _ ih0 _ _ _|exact zQ _|exact zN _|refine zP ?_ ?_|refine zO ?_ (fun _=>?_))|refine zP ?_ ?_|refine zO ?_ (fun _=>?_)
theorem F6.mono : ∀ a0 a1 a2 a3 k,LeO (F6.f k a0 a1 a2 a3) (F6.f (k+1) a0 a1 a2 a3):=by
 intro a0 a1 a2 a3 k;obtain ⟨ih0,ih1⟩:=F6.mono_l k;exact ih0 a0 a1 a2 a3
set_option maxHeartbeats 8000000 in
set_option maxRecDepth 100000 in
theorem F6.calls (k : Nat) : ∀ (a0_0 : Int) (a0_1 : Int) (a0_2 : ByteArray) (a1 : Int) (r : Bool) (w : World) (h : F6.f k a0_0 a0_1 a0_2 a1=some r),
  Calls Try.prog 48 #[.agg #[.int .i64 a0_0,.int .i64 a0_1,.string a0_2],.int .i64 a1] w fun e w' => e = .returned (.bool r)∧Below w.heap.size w w':=by
 induction k using Nat.strongRecOn with
 | _ k ih =>
 intro a0_0 a0_1 a0_2 a1 r w h
 cases k with
 | zero=>exact absurd h (by simp [F6.f])
 | succ k =>
 simp only [F6.f] at h;have hu25:=Try.underlying25;have HB:=zh (Below.refl w.heap.size w);have H : (if a0_0=0 then (some (a0_0 == 0 && (a0_1 == 0 && (a0_2.toList == ([] : List UInt8))))) else (if a0_0=1 then ((F0h.f a0_1 0 1).bind fun t318=>(if t318=true then (some (a0_2.toList == ([] : List UInt8))) else (some false))) else (if a0_0=2 then ((F0s.f a0_1).bind fun t319=>(if t319=true then (some (a0_2.toList == ([] : List UInt8))) else (some false))) else (if a0_0=3 then (if a0_1=0 then (some (decide ((a0_2.size : Int)≤300))) else (some false)) else (if a0_0=4 then (F6.j0 k (a0_0 == 4) a0_0 a0_1 a0_2 a1) else (F6.j0 k (a0_0 == 5) a0_0 a0_1 a0_2 a1))))))=some r:=h;clear h
 by_cases c3 : a0_0=0
 ·
  rw [if_pos c3] at H
  have c3b0 : (a0_0 == 0)=true:=ya.mpr c3;have c3b1 : (a0_0 != 0)=false:=zX.mpr c3;clear c3;obtain rfl:=zU H
  go_enter Try.func48,Try.ntmps48
  go_wp2_with (first|((with_reducible refine zK (N:=2) rfl ?_);(try (refine yz (by rfl) ?_;dsimp only));refine zI ?hg (N:=2) ?hd (cs:=#[.int .i64 a0_0,.int .i64 a0_1,.string a0_2]) (t:=25) ?hr ?_;(case hd=>rfl);(case hg=>rfl);(case hr=>go_simp <;> rfl);intro gb316 hg w4 hbox hb;have BK316:=zh (hbox);have hH_:=cH jG hb hg;have GW316:=zh hH_.1;have GE316:=GW316;replace HB:=zh hH_.2;clear hb hbox hg hH_)|((with_reducible refine zK (N:=3) rfl ?_);(try (refine yz (by rfl) ?_;dsimp only));refine zI ?hg (N:=3) ?hd (cs:=#[.int .i64 a1]) (t:=3) ?hr ?_;(case hd=>rfl);(case hg=>rfl);(case hr=>go_simp <;> rfl);intro gb317 hg w5 hbox hb;have BK317:=zh (hbox);have hH_:=cH jAl hb hg;have GW317:=zh hH_.1;have GE317:=GW317;replace HB:=zh hH_.2;have NB316_317:=zh ((jAm : gb316≠gb317));have NB317_316:=zh NB316_317.out.symm;replace BK316:=zh (cD BK316.out jl hb);clear hb hbox hg hH_;have hnb6:=NB316_317.out;have hnc6:=NB317_316.out;obtain ⟨hcz7_0,hcz7_1,hcz7_2,hfz7_0,hfz7_1,hfz7_2⟩:=cB3 BK316.out))
  go_ret
  exact ⟨jF,jd⟩
 rw [if_neg c3] at H;have c3b0 : (a0_0 == 0)=false:=zY.mpr c3;have c3b1 : (a0_0 != 0)=true:=zZ.mpr c3
 by_cases c8 : a0_0=1
 ·
  rw [if_pos c8] at H
  have c8b0 : (a0_0 == 1)=true:=ya.mpr c8;have c8b1 : (a0_0 != 1)=false:=zX.mpr c8;clear c8;replace H:=zT.mp H;obtain ⟨t318,A90,H⟩:=H;have A9:=zh A90;clear A90
  by_cases c10 : t318=true
  ·
   subst c10
   rw [if_pos rfl] at H;obtain rfl:=zU H
   go_enter Try.func48,Try.ntmps48
   go_wp2_with (first|((with_reducible refine zK (N:=2) rfl ?_);(try (refine yz (by rfl) ?_;dsimp only));refine zI ?hg (N:=2) ?hd (cs:=#[.int .i64 a0_0,.int .i64 a0_1,.string a0_2]) (t:=25) ?hr ?_;(case hd=>rfl);(case hg=>rfl);(case hr=>go_simp <;> rfl);intro gb316 hg w11 hbox hb;have BK316:=zh (hbox);have hH_:=cH jG hb hg;have GW316:=zh hH_.1;have GE316:=GW316;replace HB:=zh hH_.2;clear hb hbox hg hH_)|((with_reducible refine zK (N:=3) rfl ?_);(try (refine yz (by rfl) ?_;dsimp only));refine zI ?hg (N:=3) ?hd (cs:=#[.int .i64 a1]) (t:=3) ?hr ?_;(case hd=>rfl);(case hg=>rfl);(case hr=>go_simp <;> rfl);intro gb317 hg w12 hbox hb;have BK317:=zh (hbox);have hH_:=cH jAl hb hg;have GW317:=zh hH_.1;have GE317:=GW317;replace HB:=zh hH_.2;have NB316_317:=zh ((jAm : gb316≠gb317));have NB317_316:=zh NB316_317.out.symm;replace BK316:=zh (cD BK316.out jl hb);clear hb hbox hg hH_;have hnb13:=NB316_317.out;have hnc13:=NB317_316.out;obtain ⟨hcz14_0,hcz14_1,hcz14_2,hfz14_0,hfz14_1,hfz14_2⟩:=cB3 BK316.out)|((with_reducible refine zJ (f:=69) rfl ?_);refine yj (some 18) rfl rfl Try.func69 jA rfl #[.int .i64 a0_1,.int .i64 0,.int .i64 1] rfl jD ?_;(with_reducible refine (F0h.calls  a0_1 0 1 true _ A9.out).mono ?_);rintro e w' ⟨rfl,⟨nd,rfl⟩⟩;refine ⟨_,rfl,?_⟩))
   go_ret
   exact ⟨jF,jd⟩
  replace c10:=yb.mpr c10;subst c10;rw [if_neg (show ¬ (false=true) by decide)] at H;obtain rfl:=zU H
  go_enter Try.func48,Try.ntmps48
  go_wp2_with (first|((with_reducible refine zK (N:=2) rfl ?_);(try (refine yz (by rfl) ?_;dsimp only));refine zI ?hg (N:=2) ?hd (cs:=#[.int .i64 a0_0,.int .i64 a0_1,.string a0_2]) (t:=25) ?hr ?_;(case hd=>rfl);(case hg=>rfl);(case hr=>go_simp <;> rfl);intro gb316 hg w15 hbox hb;have BK316:=zh (hbox);have hH_:=cH jG hb hg;have GW316:=zh hH_.1;have GE316:=GW316;replace HB:=zh hH_.2;clear hb hbox hg hH_)|((with_reducible refine zK (N:=3) rfl ?_);(try (refine yz (by rfl) ?_;dsimp only));refine zI ?hg (N:=3) ?hd (cs:=#[.int .i64 a1]) (t:=3) ?hr ?_;(case hd=>rfl);(case hg=>rfl);(case hr=>go_simp <;> rfl);intro gb317 hg w16 hbox hb;have BK317:=zh (hbox);have hH_:=cH jAl hb hg;have GW317:=zh hH_.1;have GE317:=GW317;replace HB:=zh hH_.2;have NB316_317:=zh ((jAm : gb316≠gb317));have NB317_316:=zh NB316_317.out.symm;replace BK316:=zh (cD BK316.out jl hb);clear hb hbox hg hH_;have hnb17:=NB316_317.out;have hnc17:=NB317_316.out;obtain ⟨hcz18_0,hcz18_1,hcz18_2,hfz18_0,hfz18_1,hfz18_2⟩:=cB3 BK316.out)|((with_reducible refine zJ (f:=69) rfl ?_);refine yj (some 18) rfl rfl Try.func69 jA rfl #[.int .i64 a0_1,.int .i64 0,.int .i64 1] rfl jD ?_;(with_reducible refine (F0h.calls  a0_1 0 1 false _ A9.out).mono ?_);rintro e w' ⟨rfl,⟨nd,rfl⟩⟩;refine ⟨_,rfl,?_⟩))
  go_ret
  exact ⟨jF,jd⟩
 rw [if_neg c8] at H;have c8b0 : (a0_0 == 1)=false:=zY.mpr c8;have c8b1 : (a0_0 != 1)=true:=zZ.mpr c8
 by_cases c19 : a0_0=2
 ·
  rw [if_pos c19] at H
  have c19b0 : (a0_0 == 2)=true:=ya.mpr c19;have c19b1 : (a0_0 != 2)=false:=zX.mpr c19;clear c19;replace H:=zT.mp H;obtain ⟨t319,A200,H⟩:=H;have A20:=zh A200;clear A200
  by_cases c21 : t319=true
  ·
   subst c21
   rw [if_pos rfl] at H;obtain rfl:=zU H
   go_enter Try.func48,Try.ntmps48
   go_wp2_with (first|((with_reducible refine zK (N:=2) rfl ?_);(try (refine yz (by rfl) ?_;dsimp only));refine zI ?hg (N:=2) ?hd (cs:=#[.int .i64 a0_0,.int .i64 a0_1,.string a0_2]) (t:=25) ?hr ?_;(case hd=>rfl);(case hg=>rfl);(case hr=>go_simp <;> rfl);intro gb316 hg w22 hbox hb;have BK316:=zh (hbox);have hH_:=cH jG hb hg;have GW316:=zh hH_.1;have GE316:=GW316;replace HB:=zh hH_.2;clear hb hbox hg hH_)|((with_reducible refine zK (N:=3) rfl ?_);(try (refine yz (by rfl) ?_;dsimp only));refine zI ?hg (N:=3) ?hd (cs:=#[.int .i64 a1]) (t:=3) ?hr ?_;(case hd=>rfl);(case hg=>rfl);(case hr=>go_simp <;> rfl);intro gb317 hg w23 hbox hb;have BK317:=zh (hbox);have hH_:=cH jAl hb hg;have GW317:=zh hH_.1;have GE317:=GW317;replace HB:=zh hH_.2;have NB316_317:=zh ((jAm : gb316≠gb317));have NB317_316:=zh NB316_317.out.symm;replace BK316:=zh (cD BK316.out jl hb);clear hb hbox hg hH_;have hnb24:=NB316_317.out;have hnc24:=NB317_316.out;obtain ⟨hcz25_0,hcz25_1,hcz25_2,hfz25_0,hfz25_1,hfz25_2⟩:=cB3 BK316.out)|((with_reducible refine zJ (f:=70) rfl ?_);refine yj (some 28) rfl rfl Try.func70 jA rfl #[.int .i64 a0_1] rfl jD ?_;(with_reducible refine (F0s.calls  a0_1 true _ A20.out).mono ?_);rintro e w' ⟨rfl,⟨nd,rfl⟩⟩;refine ⟨_,rfl,?_⟩))
   go_ret
   exact ⟨jF,jd⟩
  replace c21:=yb.mpr c21;subst c21;rw [if_neg (show ¬ (false=true) by decide)] at H;obtain rfl:=zU H
  go_enter Try.func48,Try.ntmps48
  go_wp2_with (first|((with_reducible refine zK (N:=2) rfl ?_);(try (refine yz (by rfl) ?_;dsimp only));refine zI ?hg (N:=2) ?hd (cs:=#[.int .i64 a0_0,.int .i64 a0_1,.string a0_2]) (t:=25) ?hr ?_;(case hd=>rfl);(case hg=>rfl);(case hr=>go_simp <;> rfl);intro gb316 hg w26 hbox hb;have BK316:=zh (hbox);have hH_:=cH jG hb hg;have GW316:=zh hH_.1;have GE316:=GW316;replace HB:=zh hH_.2;clear hb hbox hg hH_)|((with_reducible refine zK (N:=3) rfl ?_);(try (refine yz (by rfl) ?_;dsimp only));refine zI ?hg (N:=3) ?hd (cs:=#[.int .i64 a1]) (t:=3) ?hr ?_;(case hd=>rfl);(case hg=>rfl);(case hr=>go_simp <;> rfl);intro gb317 hg w27 hbox hb;have BK317:=zh (hbox);have hH_:=cH jAl hb hg;have GW317:=zh hH_.1;have GE317:=GW317;replace HB:=zh hH_.2;have NB316_317:=zh ((jAm : gb316≠gb317));have NB317_316:=zh NB316_317.out.symm;replace BK316:=zh (cD BK316.out jl hb);clear hb hbox hg hH_;have hnb28:=NB316_317.out;have hnc28:=NB317_316.out;obtain ⟨hcz29_0,hcz29_1,hcz29_2,hfz29_0,hfz29_1,hfz29_2⟩:=cB3 BK316.out)|((with_reducible refine zJ (f:=70) rfl ?_);refine yj (some 28) rfl rfl Try.func70 jA rfl #[.int .i64 a0_1] rfl jD ?_;(with_reducible refine (F0s.calls  a0_1 false _ A20.out).mono ?_);rintro e w' ⟨rfl,⟨nd,rfl⟩⟩;refine ⟨_,rfl,?_⟩))
  go_ret
  exact ⟨jF,jd⟩
 rw [if_neg c19] at H;have c19b0 : (a0_0 == 2)=false:=zY.mpr c19;have c19b1 : (a0_0 != 2)=true:=zZ.mpr c19
 by_cases c30 : a0_0=3
 ·
  rw [if_pos c30] at H
  have c30b0 : (a0_0 == 3)=true:=ya.mpr c30;have c30b1 : (a0_0 != 3)=false:=zX.mpr c30;clear c30
  by_cases c31 : a0_1=0
  ·
   rw [if_pos c31] at H
   have c31b0 : (a0_1 == 0)=true:=ya.mpr c31;have c31b1 : (a0_1 != 0)=false:=zX.mpr c31;clear c31;obtain rfl:=zU H
   go_enter Try.func48,Try.ntmps48
   go_wp2_with (first|((with_reducible refine zK (N:=2) rfl ?_);(try (refine yz (by rfl) ?_;dsimp only));refine zI ?hg (N:=2) ?hd (cs:=#[.int .i64 a0_0,.int .i64 a0_1,.string a0_2]) (t:=25) ?hr ?_;(case hd=>rfl);(case hg=>rfl);(case hr=>go_simp <;> rfl);intro gb316 hg w32 hbox hb;have BK316:=zh (hbox);have hH_:=cH jG hb hg;have GW316:=zh hH_.1;have GE316:=GW316;replace HB:=zh hH_.2;clear hb hbox hg hH_)|((with_reducible refine zK (N:=3) rfl ?_);(try (refine yz (by rfl) ?_;dsimp only));refine zI ?hg (N:=3) ?hd (cs:=#[.int .i64 a1]) (t:=3) ?hr ?_;(case hd=>rfl);(case hg=>rfl);(case hr=>go_simp <;> rfl);intro gb317 hg w33 hbox hb;have BK317:=zh (hbox);have hH_:=cH jAl hb hg;have GW317:=zh hH_.1;have GE317:=GW317;replace HB:=zh hH_.2;have NB316_317:=zh ((jAm : gb316≠gb317));have NB317_316:=zh NB316_317.out.symm;replace BK316:=zh (cD BK316.out jl hb);clear hb hbox hg hH_;have hnb34:=NB316_317.out;have hnc34:=NB317_316.out;obtain ⟨hcz35_0,hcz35_1,hcz35_2,hfz35_0,hfz35_1,hfz35_2⟩:=cB3 BK316.out))
   go_ret
   exact ⟨jF,jd⟩
  rw [if_neg c31] at H;have c31b0 : (a0_1 == 0)=false:=zY.mpr c31;have c31b1 : (a0_1 != 0)=true:=zZ.mpr c31;obtain rfl:=zU H
  go_enter Try.func48,Try.ntmps48
  go_wp2_with (first|((with_reducible refine zK (N:=2) rfl ?_);(try (refine yz (by rfl) ?_;dsimp only));refine zI ?hg (N:=2) ?hd (cs:=#[.int .i64 a0_0,.int .i64 a0_1,.string a0_2]) (t:=25) ?hr ?_;(case hd=>rfl);(case hg=>rfl);(case hr=>go_simp <;> rfl);intro gb316 hg w36 hbox hb;have BK316:=zh (hbox);have hH_:=cH jG hb hg;have GW316:=zh hH_.1;have GE316:=GW316;replace HB:=zh hH_.2;clear hb hbox hg hH_)|((with_reducible refine zK (N:=3) rfl ?_);(try (refine yz (by rfl) ?_;dsimp only));refine zI ?hg (N:=3) ?hd (cs:=#[.int .i64 a1]) (t:=3) ?hr ?_;(case hd=>rfl);(case hg=>rfl);(case hr=>go_simp <;> rfl);intro gb317 hg w37 hbox hb;have BK317:=zh (hbox);have hH_:=cH jAl hb hg;have GW317:=zh hH_.1;have GE317:=GW317;replace HB:=zh hH_.2;have NB316_317:=zh ((jAm : gb316≠gb317));have NB317_316:=zh NB316_317.out.symm;replace BK316:=zh (cD BK316.out jl hb);clear hb hbox hg hH_;have hnb38:=NB316_317.out;have hnc38:=NB317_316.out;obtain ⟨hcz39_0,hcz39_1,hcz39_2,hfz39_0,hfz39_1,hfz39_2⟩:=cB3 BK316.out))
  go_ret
  exact ⟨jF,jd⟩
 rw [if_neg c30] at H;have c30b0 : (a0_0 == 3)=false:=zY.mpr c30;have c30b1 : (a0_0 != 3)=true:=zZ.mpr c30;have HC40:=zh H;clear H
 go_enter Try.func48,Try.ntmps48
 go_upto_if 45 with (first|((with_reducible refine zK (N:=2) rfl ?_);(try (refine yz (by rfl) ?_;dsimp only));refine zI ?hg (N:=2) ?hd (cs:=#[.int .i64 a0_0,.int .i64 a0_1,.string a0_2]) (t:=25) ?hr ?_;(case hd=>rfl);(case hg=>rfl);(case hr=>go_simp <;> rfl);intro gb316 hg w41 hbox hb;have BK316:=zh (hbox);have hH_:=cH jG hb hg;have GW316:=zh hH_.1;have GE316:=GW316;replace HB:=zh hH_.2;clear hb hbox hg hH_)|((with_reducible refine zK (N:=3) rfl ?_);(try (refine yz (by rfl) ?_;dsimp only));refine zI ?hg (N:=3) ?hd (cs:=#[.int .i64 a1]) (t:=3) ?hr ?_;(case hd=>rfl);(case hg=>rfl);(case hr=>go_simp <;> rfl);intro gb317 hg w42 hbox hb;have BK317:=zh (hbox);have hH_:=cH jAl hb hg;have GW317:=zh hH_.1;have GE317:=GW317;replace HB:=zh hH_.2;have NB316_317:=zh ((jAm : gb316≠gb317));have NB317_316:=zh NB316_317.out.symm;replace BK316:=zh (cD BK316.out jl hb);clear hb hbox hg hH_;have hnb43:=NB316_317.out;have hnc43:=NB317_316.out;obtain ⟨hcz44_0,hcz44_1,hcz44_2,hfz44_0,hfz44_1,hfz44_2⟩:=cB3 BK316.out))
 (try simp only [Act.put,zi,zj,zk])
 go_cut [45] (fun v45 wc => ∃ (kq : Nat) (x45_39 : Bool),v45 = .bool x45_39∧Aside0 (F6.j0 kq x45_39 a0_0 a0_1 a0_2 a1=some r)∧Aside0 (kq≤k)∧Aside0 (wc.heap[gb316]? = some (.cells #[.int .i64 a0_0,.int .i64 a0_1,.string a0_2] 25 (0,0)))∧Aside0 (wc.heap[gb317]? = some (.cells #[.int .i64 a1] 3 (0,0)))∧Aside0 (Below w.heap.size w wc))
 case first =>
  have H:=HC40.out;clear HC40
  by_cases c45 : a0_0=4
  ·
   rw [if_pos c45] at H
   have c45b0 : (a0_0 == 4)=true:=ya.mpr c45;have c45b1 : (a0_0 != 4)=false:=zX.mpr c45;clear c45;(first|rw [c45b0]|(simp only [zG,zH];rw [c45b0])|skip);have H':=zh H;clear H
   go_wp2
   go_meet
   case rel=>exact ⟨_,((a0_0 == 4)),jC,H',⟨jY⟩,⟨jl⟩,⟨jAn⟩,⟨jd⟩⟩
  rw [if_neg c45] at H;have c45b0 : (a0_0 == 4)=false:=zY.mpr c45;have c45b1 : (a0_0 != 4)=true:=zZ.mpr c45;(first|rw [c45b0]|(simp only [zG,zH];rw [c45b0])|skip);have H':=zh H;clear H
  go_wp2
  go_meet
  case rel=>exact ⟨_,((a0_0 == 5)),jC,H',⟨jY⟩,⟨jl⟩,⟨jAn⟩,⟨jd⟩⟩
 case rest =>
  clear HC40
  try clear c1 c2
  try clear p2
  try clear c3 c3b0 c3b1 c4 c6 c7 c8 c8b0 c8b1 c10 c13 c17 c19 c19b0 c19b1 c21 c24 c28 c30 c30b0 c30b1 c31 c31b0 c31b1 c34 c38 c43 c45 c45b0 c45b1
  try clear hcz14_0 hcz14_1 hcz14_2
  try clear hcz18_0 hcz18_1 hcz18_2
  try clear hcz25_0 hcz25_1 hcz25_2
  try clear hcz29_0 hcz29_1 hcz29_2
  try clear hcz35_0 hcz35_1 hcz35_2
  try clear hcz39_0 hcz39_1 hcz39_2
  try clear hcz44_0 hcz44_1 hcz44_2
  try clear hcz7_0 hcz7_1 hcz7_2
  try clear hfz14_0 hfz14_1 hfz14_2
  try clear hfz18_0 hfz18_1 hfz18_2
  try clear hfz25_0 hfz25_1 hfz25_2
  try clear hfz29_0 hfz29_1 hfz29_2
  try clear hfz35_0 hfz35_1 hfz35_2
  try clear hfz39_0 hfz39_1 hfz39_2
  try clear hfz44_0 hfz44_1 hfz44_2
  try clear hfz7_0 hfz7_1 hfz7_2
  obtain ⟨kq,x45_39,rfl,HA,HJ39,BK316,BK317,HB⟩:=hcut
  cases kq with
  | zero=>exact absurd HA.out (by simp [F6.j0])
  | succ kj39 =>
   have H:=HA.out;clear HA;simp only [F6.j0] at H
   by_cases c46 : x45_39=true
   ·
    subst c46
    rw [if_pos rfl] at H;replace H:=zT.mp H;obtain ⟨⟨t320,t323⟩,A470,H⟩:=H;have A47:=zh A470;clear A470
    by_cases c48 : a0_1=0
    ·
     rw [if_pos c48] at H
     have c48b0 : (a0_1 == 0)=true:=ya.mpr c48;have c48b1 : (a0_1 != 0)=false:=zX.mpr c48;clear c48
     by_cases c49 : (a0_2.size : Int)≤300
     ·
      rw [if_pos c49] at H
      have c49b0 : decide ((a0_2.size : Int)≤300)=true:=decide_eq_true c49;have c49b1 : decide (a0_2.size≤300)=true:=decide_eq_true jH;clear c49
      by_cases c50 : a1 > 0
      ·
       rw [if_pos c50] at H
       have c50b0 : decide (0<a1)=true:=decide_eq_true c50;clear c50
       by_cases c51 : t323=true
       ·
        subst c51
        rw [if_pos rfl] at H;replace H:=zT.mp H;obtain ⟨t324,A520,H⟩:=H;have A52:=zh A520;clear A520;obtain rfl:=zU H;have hnb53:=NB316_317.out;have hnc53:=NB317_316.out;obtain ⟨hcz54_0,hcz54_1,hcz54_2,hfz54_0,hfz54_1,hfz54_2⟩:=cB3 BK316.out
        go_wp2_with (first|((with_reducible refine zJ (f:=71) rfl ?_);refine yj (some 50) rfl rfl Try.func71 jA rfl #[.agg #[.int .i64 a0_0,.int .i64 a0_1,.string a0_2]] rfl jD ?_;(with_reducible refine (F5.calls kj39  a0_0 a0_1 a0_2 t320 true _ A47.out).mono ?_);rintro e w55 ⟨v321,rfl,ho0,hb⟩;refine ⟨_,rfl,?_⟩;have HO322:=zh (yy (Kd.R_newB ho0 (g:=gb316) (o:=.cells #[.int .i64 a0_0,.int .i64 a0_1,.string a0_2] 25 (0,0)) jl) (zB jd));replace BK316:=zh (cD BK316.out jl hb);replace BK317:=zh (cD BK317.out jAn hb);replace HB:=zh (zC jd hb);(try clear hb);(try clear hb2);(try clear hk);(try clear hi);(try clear ho0);obtain ⟨hcz56_0,hcz56_1,hcz56_2,hfz56_0,hfz56_1,hfz56_2⟩:=cB3 BK316.out;obtain ⟨hcz57_0,hfz57_0⟩:=cB1 BK317.out;obtain ⟨Ao58,co58,eo58⟩:=yk HO322.out;subst eo58)|(go_at_call 57;(with_reducible refine (Ff.calls kj39 (F6.f kj39) (ih kj39 (by have:=HJ39.out;omega)) _ _ t320 gb317 a1 t324 _ ?side1 ?side2 ?side3 A52.out).mono ?_);(case side1=>repeat (first|exact (yh HO322.out).2.2|(with_reducible refine Kd.C_alloc ?_ _)|(with_reducible refine Kd.C_drewN ?_ _)|(with_reducible refine Kd.C_drew ?_)));(case side2=>exact (yh HO322.out).2.1);(case side3=>(with_reducible repeat first|apply ze|apply zf|apply zg);exact BK317.out);rintro e w59 ⟨rfl,hb⟩;replace HO322:=zh (yg (by (with_reducible repeat (first|apply zm|apply zn|apply zo));exact HO322.out) hb);replace BK316:=zh (cD BK316.out jl hb);replace BK317:=zh (cD BK317.out jAn hb);replace HB:=zh (zC jd hb);(try clear hb);(try clear hb2);(try clear hk);(try clear hi)))
        go_ret
        exact ⟨jF,jd⟩
       replace c51:=yb.mpr c51;subst c51;rw [if_neg (show ¬ (false=true) by decide)] at H;obtain rfl:=zU H;have hnb60:=NB316_317.out;have hnc60:=NB317_316.out;obtain ⟨hcz61_0,hcz61_1,hcz61_2,hfz61_0,hfz61_1,hfz61_2⟩:=cB3 BK316.out
       go_wp2_with (first|((with_reducible refine zJ (f:=71) rfl ?_);refine yj (some 50) rfl rfl Try.func71 jA rfl #[.agg #[.int .i64 a0_0,.int .i64 a0_1,.string a0_2]] rfl jD ?_;(with_reducible refine (F5.calls kj39  a0_0 a0_1 a0_2 t320 false _ A47.out).mono ?_);rintro e w62 ⟨v321,rfl,ho0,hb⟩;refine ⟨_,rfl,?_⟩;have HO322:=zh (yy (Kd.R_newB ho0 (g:=gb316) (o:=.cells #[.int .i64 a0_0,.int .i64 a0_1,.string a0_2] 25 (0,0)) jl) (zB jd));replace BK316:=zh (cD BK316.out jl hb);replace BK317:=zh (cD BK317.out jAn hb);replace HB:=zh (zC jd hb);(try clear hb);(try clear hb2);(try clear hk);(try clear hi);(try clear ho0);obtain ⟨hcz63_0,hcz63_1,hcz63_2,hfz63_0,hfz63_1,hfz63_2⟩:=cB3 BK316.out;obtain ⟨hcz64_0,hfz64_0⟩:=cB1 BK317.out))
       go_ret
       exact ⟨jF,jd⟩
      rw [if_neg c50] at H;have c50b0 : decide (0<a1)=false:=decide_eq_false c50;clear c50;obtain rfl:=zU H;have hnb65:=NB316_317.out;have hnc65:=NB317_316.out;obtain ⟨hcz66_0,hcz66_1,hcz66_2,hfz66_0,hfz66_1,hfz66_2⟩:=cB3 BK316.out
      go_wp2_with (first|((with_reducible refine zJ (f:=71) rfl ?_);refine yj (some 50) rfl rfl Try.func71 jA rfl #[.agg #[.int .i64 a0_0,.int .i64 a0_1,.string a0_2]] rfl jD ?_;(with_reducible refine (F5.calls kj39  a0_0 a0_1 a0_2 t320 t323 _ A47.out).mono ?_);rintro e w67 ⟨v321,rfl,ho0,hb⟩;refine ⟨_,rfl,?_⟩;have HO322:=zh (yy (Kd.R_newB ho0 (g:=gb316) (o:=.cells #[.int .i64 a0_0,.int .i64 a0_1,.string a0_2] 25 (0,0)) jl) (zB jd));replace BK316:=zh (cD BK316.out jl hb);replace BK317:=zh (cD BK317.out jAn hb);replace HB:=zh (zC jd hb);(try clear hb);(try clear hb2);(try clear hk);(try clear hi);(try clear ho0);obtain ⟨hcz68_0,hcz68_1,hcz68_2,hfz68_0,hfz68_1,hfz68_2⟩:=cB3 BK316.out;obtain ⟨hcz69_0,hfz69_0⟩:=cB1 BK317.out))
      go_ret
      exact ⟨jF,jd⟩
     rw [if_neg c49] at H;have c49b0 : decide ((a0_2.size : Int)≤300)=false:=decide_eq_false c49;have c49b1 : decide (a0_2.size≤300)=false:=decide_eq_false jH;clear c49;obtain rfl:=zU H;have hnb70:=NB316_317.out;have hnc70:=NB317_316.out;obtain ⟨hcz71_0,hcz71_1,hcz71_2,hfz71_0,hfz71_1,hfz71_2⟩:=cB3 BK316.out
     go_wp2_with (first|((with_reducible refine zJ (f:=71) rfl ?_);refine yj (some 50) rfl rfl Try.func71 jA rfl #[.agg #[.int .i64 a0_0,.int .i64 a0_1,.string a0_2]] rfl jD ?_;(with_reducible refine (F5.calls kj39  a0_0 a0_1 a0_2 t320 t323 _ A47.out).mono ?_);rintro e w72 ⟨v321,rfl,ho0,hb⟩;refine ⟨_,rfl,?_⟩;have HO322:=zh (yy (Kd.R_newB ho0 (g:=gb316) (o:=.cells #[.int .i64 a0_0,.int .i64 a0_1,.string a0_2] 25 (0,0)) jl) (zB jd));replace BK316:=zh (cD BK316.out jl hb);replace BK317:=zh (cD BK317.out jAn hb);replace HB:=zh (zC jd hb);(try clear hb);(try clear hb2);(try clear hk);(try clear hi);(try clear ho0);obtain ⟨hcz73_0,hcz73_1,hcz73_2,hfz73_0,hfz73_1,hfz73_2⟩:=cB3 BK316.out))
     go_ret
     exact ⟨jF,jd⟩
    rw [if_neg c48] at H;have c48b0 : (a0_1 == 0)=false:=zY.mpr c48;have c48b1 : (a0_1 != 0)=true:=zZ.mpr c48;obtain rfl:=zU H;have hnb74:=NB316_317.out;have hnc74:=NB317_316.out;obtain ⟨hcz75_0,hcz75_1,hcz75_2,hfz75_0,hfz75_1,hfz75_2⟩:=cB3 BK316.out
    go_wp2_with (first|((with_reducible refine zJ (f:=71) rfl ?_);refine yj (some 50) rfl rfl Try.func71 jA rfl #[.agg #[.int .i64 a0_0,.int .i64 a0_1,.string a0_2]] rfl jD ?_;(with_reducible refine (F5.calls kj39  a0_0 a0_1 a0_2 t320 t323 _ A47.out).mono ?_);rintro e w76 ⟨v321,rfl,ho0,hb⟩;refine ⟨_,rfl,?_⟩;have HO322:=zh (yy (Kd.R_newB ho0 (g:=gb316) (o:=.cells #[.int .i64 a0_0,.int .i64 a0_1,.string a0_2] 25 (0,0)) jl) (zB jd));replace BK316:=zh (cD BK316.out jl hb);replace BK317:=zh (cD BK317.out jAn hb);replace HB:=zh (zC jd hb);(try clear hb);(try clear hb2);(try clear hk);(try clear hi);(try clear ho0);obtain ⟨hcz77_0,hcz77_1,hcz77_2,hfz77_0,hfz77_1,hfz77_2⟩:=cB3 BK316.out))
    go_ret
    exact ⟨jF,jd⟩
   replace c46:=yb.mpr c46;subst c46;rw [if_neg (show ¬ (false=true) by decide)] at H;obtain rfl:=zU H
   go_wp2
   go_ret
   exact ⟨jF,jd⟩

end Go.Proofs.Ytoinoihiknmnmaa.Q
end
section
namespace Go.Proofs.Ytoinoihiknmnmaa.Q
open Go.RowKit Go.Proofs.YtoinoihiknmnmaaW.PrintWords Go.Proofs.YtoinoihiknmnmaaW.PrintLast Go.Proofs.YtoinoihiknmnmaaW.PrintMore
attribute [local go_sem] max2_int min2_int max_two min_two max_three min_three max_four min_four max2_str min2_str str_geq str_gtr str_leq
set_option linter.unusedVariables false
set_option linter.unusedSimpArgs false

def Fw.f (k : Nat) (a0_0 : Int) (a0_1 : Int) (a0_2 : ByteArray) : Option (Bool):=(F6.f k a0_0 a0_1 a0_2 5).bind fun t326=>(some t326)
theorem Fw.mono : ∀ a0 a1 a2 k,LeO (Fw.f k a0 a1 a2) (Fw.f (k+1) a0 a1 a2):=by
 intro a0 a1 a2 k;unfold Fw.f
 repeat' first|(with_reducible first|exact F6.mono _ _ _ _ _|exact zQ _|exact zN _|refine zP ?_ ?_|refine zO ?_ (fun _=>?_))|refine zP ?_ ?_|refine zO ?_ (fun _=>?_)
set_option maxHeartbeats 8000000 in
set_option maxRecDepth 100000 in
theorem Fw.calls (k : Nat) (a0_0 : Int) (a0_1 : Int) (a0_2 : ByteArray) (r : Bool) (w : World) (h : Fw.f k a0_0 a0_1 a0_2=some r) :
  Calls Try.prog 26 #[.agg #[.int .i64 a0_0,.int .i64 a0_1,.string a0_2]] w fun e w' => e = .returned (.bool r)∧Below w.heap.size w w':=by
 have hu25:=Try.underlying25;have HB:=zh (Below.refl w.heap.size w);have H : ((F6.f k a0_0 a0_1 a0_2 5).bind fun t326=>(some t326))=some r:=h;clear h;replace H:=zT.mp H;obtain ⟨t326,A20,H⟩:=H;have A2:=zh A20;clear A20;obtain rfl:=zU H
 go_enter Try.func26,Try.ntmps26
 go_wp2_with (first|((with_reducible refine zK (N:=1) rfl ?_);refine zI ?hg (N:=1) ?hd (cs:=#[.int .i64 a0_0,.int .i64 a0_1,.string a0_2]) (t:=25) ?hr ?_;(case hd=>rfl);(case hg=>rfl);(case hr=>go_simp <;> rfl);intro gb325 hg w3 hbox hb;have BK325:=zh (hbox);have hH_:=cH jG hb hg;have GW325:=zh hH_.1;have GE325:=GW325;replace HB:=zh hH_.2;clear hb hbox hg hH_;obtain ⟨hcz4_0,hcz4_1,hcz4_2,hfz4_0,hfz4_1,hfz4_2⟩:=cB3 BK325.out)|((with_reducible refine zJ (f:=48) rfl ?_);refine yj (some 4) rfl rfl Try.func48 jA rfl #[.agg #[.int .i64 a0_0,.int .i64 a0_1,.string a0_2],.int .i64 5] rfl jD ?_;(with_reducible refine (F6.calls k  a0_0 a0_1 a0_2 5 t326 _ A2.out).mono ?_);rintro e w5 ⟨rfl,hb⟩;refine ⟨_,rfl,?_⟩;replace BK325:=zh (cD BK325.out (by (with_reducible repeat first|apply ze|apply zf|apply zg);exact BK325.out) hb);replace HB:=zh (zC jDA hb);(try clear hb);(try clear hb2);(try clear hk);(try clear hi)))
 go_ret
 exact ⟨jF,jDA⟩


def F0i.f (k : Nat) (a0_0 : Int) (a0_1 : Int) (a0_2 : ByteArray) : Option (Bool):=(Fw.f k a0_0 a0_1 a0_2).bind fun t561=>(some (!t561))
theorem F0i.mono : ∀ a0 a1 a2 k,LeO (F0i.f k a0 a1 a2) (F0i.f (k+1) a0 a1 a2):=by
 intro a0 a1 a2 k;unfold F0i.f
 repeat' first|(with_reducible first|exact Fw.mono _ _ _ _|exact zQ _|exact zN _|refine zP ?_ ?_|refine zO ?_ (fun _=>?_))|refine zP ?_ ?_|refine zO ?_ (fun _=>?_)
set_option maxHeartbeats 8000000 in
set_option maxRecDepth 100000 in
theorem F0i.calls (k : Nat) (a0_0 : Int) (a0_1 : Int) (a0_2 : ByteArray) (r : Bool) (w : World) (h : F0i.f k a0_0 a0_1 a0_2=some r) :
  Calls Try.prog 58 #[.agg #[.int .i64 a0_0,.int .i64 a0_1,.string a0_2]] w fun e w' => e = .returned (.bool r)∧Below w.heap.size w w':=by
 have hu25:=Try.underlying25;have HB:=zh (Below.refl w.heap.size w);have H : ((Fw.f k a0_0 a0_1 a0_2).bind fun t561=>(some (!t561)))=some r:=h;clear h;replace H:=zT.mp H;obtain ⟨t561,A20,H⟩:=H;have A2:=zh A20;clear A20;obtain rfl:=zU H
 go_enter Try.func58,Try.ntmps58
 go_wp2_with (first|((with_reducible refine zK (N:=1) rfl ?_);refine zI ?hg (N:=1) ?hd (cs:=#[.int .i64 a0_0,.int .i64 a0_1,.string a0_2]) (t:=25) ?hr ?_;(case hd=>rfl);(case hg=>rfl);(case hr=>go_simp <;> rfl);intro gb560 hg w3 hbox hb;have BK560:=zh (hbox);have hH_:=cH jG hb hg;have GW560:=zh hH_.1;have GE560:=GW560;replace HB:=zh hH_.2;clear hb hbox hg hH_;obtain ⟨hcz4_0,hcz4_1,hcz4_2,hfz4_0,hfz4_1,hfz4_2⟩:=cB3 BK560.out)|((with_reducible refine zJ (f:=26) rfl ?_);refine yj (some 4) rfl rfl Try.func26 jA rfl #[.agg #[.int .i64 a0_0,.int .i64 a0_1,.string a0_2]] rfl jD ?_;(with_reducible refine (Fw.calls k  a0_0 a0_1 a0_2 t561 _ A2.out).mono ?_);rintro e w5 ⟨rfl,hb⟩;refine ⟨_,rfl,?_⟩;replace BK560:=zh (cD BK560.out (by (with_reducible repeat first|apply ze|apply zf|apply zg);exact BK560.out) hb);replace HB:=zh (zC jDB hb);(try clear hb);(try clear hb2);(try clear hk);(try clear hi)))
 go_ret
 exact ⟨jF,jDB⟩


def Fz.l0 : Nat→List (S25)→Int→Int→Option (Int)
 | 0,_,_,_=>none
 | k+1,x0,x7,x8=>if x8<x7 then (if 0≤x8 then (if x8<(x0.length : Int) then ((F0i.f k ((rd_T25 x0 x8).f0) ((rd_T25 x0 x8).f1) ((rd_T25 x0 x8).f2)).bind fun t563=>(if t563=true then (some x8) else (Fz.l0 k x0 x7 (wrap64 (x8+1))))) else (none)) else (none)) else (some (-1))
def Fz.f (k : Nat) (l0 : List (S25))  : Option (Int):=Fz.l0 k l0 (l0.length : Int) 0
theorem Fz.mono_l : ∀ k,(∀ y0 y1 y2,LeO (Fz.l0 k y0 y1 y2) (Fz.l0 (k+1) y0 y1 y2))
 | 0=>fun _ _ _ r h=>by simp [Fz.l0] at h
 | k+1=>by
  have ih0:=Fz.mono_l k;intro y0 y1 y2;unfold Fz.l0
  repeat' first|(with_reducible first|exact ih0 _ _ _|exact F0i.mono _ _ _ _|exact zQ _|exact zN _|refine zP ?_ ?_|refine zO ?_ (fun _=>?_))|refine zP ?_ ?_|refine zO ?_ (fun _=>?_)
theorem Fz.mono : ∀ a0 k,LeO (Fz.f k a0) (Fz.f (k+1) a0):=by
 intro a0 k;have ih0:=Fz.mono_l k;unfold Fz.f
 repeat' first|(with_reducible first|exact ih0 _ _ _|exact F0i.mono _ _ _ _|exact zQ _|exact zN _|refine zP ?_ ?_|refine zO ?_ (fun _=>?_))|refine zP ?_ ?_|refine zO ?_ (fun _=>?_)
set_option maxHeartbeats 8000000 in
set_option maxRecDepth 100000 in
theorem Fz.calls (k : Nat) (A0 : Option Addr) (c0 : Nat) (l0 : List (S25))  (r : Int) (w : World) (hr0 : Kd.C k25 w A0 l0.length l0) (hc0 : l0.length≤c0) (h : Fz.f k l0=some r) :
  Calls Try.prog 78 #[.slice A0 l0.length c0,.func (.func 58) #[] #[]] w fun e w' => e = .returned (.int .i64 r)∧Below w.heap.size w w':=by
 have hu25:=Try.underlying25;have HR0:=zh hr0;have HC0:=zh hc0;clear hr0 hc0;have HB:=zh (Below.refl w.heap.size w);have H : (Fz.l0 k l0 (l0.length : Int) 0)=some r:=h;clear h;have H':=zh H;clear H
 go_enter Try.func78,Try.ntmps78
 go_wp2
 go_loopg [8] k (fun kq v8 w' => ∃ (x8_1 : Int),v8 = .int .i64 x8_1∧Aside0 (Fz.l0 kq l0 (l0.length : Int) x8_1=some r)∧Aside0 (kq≤k)∧Aside0 (Below w.heap.size w w'))
 case atStart=>exact ⟨(0),jC,H',⟨ye _⟩,⟨jG⟩⟩
 case round =>
  clear H'
  try clear p2
  obtain ⟨x8_1,rfl,HA,HK1,HB⟩:=hrel
  cases gk with
  | zero=>exact absurd HA.out (by simp [Fz.l0])
  | succ k1 =>
   have H:=HA.out;clear HA;simp only [Fz.l0] at H
   by_cases c3 : x8_1<(l0.length : Int)
   ·
    rw [if_pos c3] at H
    have c3b0 : decide (x8_1<(l0.length : Int))=true:=decide_eq_true c3;clear c3
    by_cases c4 : 0≤x8_1
    ·
     rw [if_pos c4] at H
     have c4b0 : decide (0≤x8_1)=true:=decide_eq_true c4;clear c4
     by_cases c5 : x8_1<(l0.length : Int)
     ·
      rw [if_pos c5] at H
      have c5b0 : decide (x8_1<(l0.length : Int))=true:=decide_eq_true c5;clear c5;replace H:=zT.mp H;obtain ⟨t563,A60,H⟩:=H;have A6:=zh A60;clear A60
      by_cases c7 : t563=true
      ·
       subst c7
       rw [if_pos rfl] at H;obtain rfl:=zU H;have p562 : 0≤(x8_1 : Int):=zy jE;have q562 : x8_1<(l0.length : Int):=zy jE;obtain ⟨ad562,e562,hx562_0,hx562_1,hx562_2⟩:=at_T25 HR0.out x8_1 p562 q562
       cases e562
       replace hx562_0:=(HB.out.cell (zl w _ hx562_0)).trans hx562_0;replace hx562_1:=(HB.out.cell (zl w _ hx562_1)).trans hx562_1;replace hx562_2:=(HB.out.cell (zl w _ hx562_2)).trans hx562_2;replace p562:=eq_true p562;replace q562:=eq_true q562
       go_wp2_with (first|(go_at_call 58;(with_reducible refine (F0i.calls k1  ((rd_T25 l0 x8_1).f0) ((rd_T25 l0 x8_1).f1) ((rd_T25 l0 x8_1).f2) true _ A6.out).mono ?_);rintro e w8 ⟨rfl,hb⟩;replace HB:=zh (zC jG hb);(try clear hb);(try clear hb2);(try clear hk);(try clear hi)))
       go_ret
       exact ⟨jF,jG⟩
      replace c7:=yb.mpr c7;subst c7;rw [if_neg (show ¬ (false=true) by decide)] at H;have H':=zh H;clear H;have p562 : 0≤(x8_1 : Int):=zy jE;have q562 : x8_1<(l0.length : Int):=zy jE;obtain ⟨ad562,e562,hx562_0,hx562_1,hx562_2⟩:=at_T25 HR0.out x8_1 p562 q562
      cases e562
      replace hx562_0:=(HB.out.cell (zl w _ hx562_0)).trans hx562_0;replace hx562_1:=(HB.out.cell (zl w _ hx562_1)).trans hx562_1;replace hx562_2:=(HB.out.cell (zl w _ hx562_2)).trans hx562_2;replace p562:=eq_true p562;replace q562:=eq_true q562
      go_wp2_with (first|(go_at_call 58;(with_reducible refine (F0i.calls k1  ((rd_T25 l0 x8_1).f0) ((rd_T25 l0 x8_1).f1) ((rd_T25 l0 x8_1).f2) false _ A6.out).mono ?_);rintro e w9 ⟨rfl,hb⟩;replace HB:=zh (zC jG hb);(try clear hb);(try clear hb2);(try clear hk);(try clear hi)))
      go_roundg k1
      case measure=>have:=HK1.out;omega
      case rel=>exact ⟨(wrap64 (x8_1+1)),jC,H',⟨jZ⟩,⟨jG⟩⟩
     rw [if_neg c5] at H;exact absurd H (by simp)
    rw [if_neg c4] at H;exact absurd H (by simp)
   rw [if_neg c3] at H;have c3b0 : decide (x8_1<(l0.length : Int))=false:=decide_eq_false c3;clear c3;obtain rfl:=zU H
   go_wp2
   go_ret
   exact ⟨jF,jG⟩


def Fi.f (k : Nat) (l0 : List (S25))  : Option (Bool):=(Fz.f k l0).bind fun t564=>(some (decide (t564 ≥ 0)))
theorem Fi.mono : ∀ a0 k,LeO (Fi.f k a0) (Fi.f (k+1) a0):=by
 intro a0 k;unfold Fi.f
 repeat' first|(with_reducible first|exact Fz.mono _ _|exact zQ _|exact zN _|refine zP ?_ ?_|refine zO ?_ (fun _=>?_))|refine zP ?_ ?_|refine zO ?_ (fun _=>?_)
set_option maxHeartbeats 8000000 in
set_option maxRecDepth 100000 in
theorem Fi.calls (k : Nat) (A0 : Option Addr) (c0 : Nat) (l0 : List (S25))  (r : Bool) (w : World) (hr0 : Kd.C k25 w A0 l0.length l0) (hc0 : l0.length≤c0) (h : Fi.f k l0=some r) :
  Calls Try.prog 57 #[.slice A0 l0.length c0,.func (.func 58) #[] #[]] w fun e w' => e = .returned (.bool r)∧Below w.heap.size w w':=by
 have HR0:=zh hr0;have HC0:=zh hc0;clear hr0 hc0;have HB:=zh (Below.refl w.heap.size w);have H : ((Fz.f k l0).bind fun t564=>(some (decide (t564 ≥ 0))))=some r:=h;clear h;replace H:=zT.mp H;obtain ⟨t564,A30,H⟩:=H;have A3:=zh A30;clear A30;obtain rfl:=zU H
 go_enter Try.func57,Try.ntmps57
 go_wp2_with (first|((with_reducible refine zJ (f:=78) rfl ?_);refine yj (some 7) rfl rfl Try.func78 jA rfl #[.slice A0 l0.length c0,.func (.func 58) #[] #[]] rfl jD ?_;(with_reducible refine (Fz.calls k  _ _ l0  t564 _ ?side1 ?side2 A3.out).mono ?_);(case side1=>repeat (first|exact HR0.out|(with_reducible refine Kd.C_alloc ?_ _)|(with_reducible refine Kd.C_drewN ?_ _)|(with_reducible refine Kd.C_drew ?_)));(case side2=>exact HC0.out);rintro e w4 ⟨rfl,hb⟩;refine ⟨_,rfl,?_⟩;replace HB:=zh (zC jG hb);(try clear hb);(try clear hb2);(try clear hk);(try clear hi)))
 go_ret
 exact ⟨jF,jG⟩


def F06.f (k : Nat) (l0 : List (S25)) : Option (Bool):=(Fi.f k l0).bind fun t565=>(some (!t565))
theorem F06.mono : ∀ a0 k,LeO (F06.f k a0) (F06.f (k+1) a0):=by
 intro a0 k;unfold F06.f
 repeat' first|(with_reducible first|exact Fi.mono _ _|exact zQ _|exact zN _|refine zP ?_ ?_|refine zO ?_ (fun _=>?_))|refine zP ?_ ?_|refine zO ?_ (fun _=>?_)
set_option maxHeartbeats 8000000 in
set_option maxRecDepth 100000 in
theorem F06.calls (k : Nat) (A0 : Option Addr) (c0 : Nat) (l0 : List (S25)) (r : Bool) (w : World) (hr0 : Kd.C k25 w A0 l0.length l0) (hc0 : l0.length≤c0) (h : F06.f k l0=some r) :
  Calls Try.prog 33 #[.slice A0 l0.length c0] w fun e w' => e = .returned (.bool r)∧Below w.heap.size w w':=by
 have HR0:=zh hr0;have HC0:=zh hc0;clear hr0 hc0;have HB:=zh (Below.refl w.heap.size w);have H : ((Fi.f k l0).bind fun t565=>(some (!t565)))=some r:=h;clear h;replace H:=zT.mp H;obtain ⟨t565,A20,H⟩:=H;have A2:=zh A20;clear A20;obtain rfl:=zU H
 go_enter Try.func33,Try.ntmps33
 go_wp2_with (first|((with_reducible refine zJ (f:=57) rfl ?_);refine yj (some 4) rfl rfl Try.func57 jA rfl #[.slice A0 l0.length c0,.func (.func 58) #[] #[]] rfl jD ?_;(with_reducible refine (Fi.calls k  _ _ l0  t565 _ ?side1 ?side2 A2.out).mono ?_);(case side1=>repeat (first|exact HR0.out|(with_reducible refine Kd.C_alloc ?_ _)|(with_reducible refine Kd.C_drewN ?_ _)|(with_reducible refine Kd.C_drew ?_)));(case side2=>exact HC0.out);rintro e w3 ⟨rfl,hb⟩;refine ⟨_,rfl,?_⟩;replace HB:=zh (zC jG hb);(try clear hb);(try clear hb2);(try clear hk);(try clear hi)))
 go_ret
 exact ⟨jF,jG⟩

end Go.Proofs.Ytoinoihiknmnmaa.Q
end
section
namespace Go.Proofs.YtoinoihiknmnmaaW.PrintMore
open Go Go.RowKit Go.Proofs.YtoinoihiknmnmaaW.PrintWords Go.Proofs.YtoinoihiknmnmaaW.PrintLast
section
variable {P : Program} {ops : Array Oper} {o : Oper} {rest : List Oper} {a : Act} {Q : Exit→Act→World→Prop}
theorem str_at {W W1 : World} {base : Nat} {t u ty e : TypeId} {i : TypeInfo} (ht : P.underlying t=some (.slice e)) (hu : P.underlying u=some .string) (hi : P.info? e=some i) (hz : i.zero=some (.int .u8 0))
  (hsize : i.size=1) (hby : i.bytes=1) {v v1 : Value} {n : Nat} {xs : List Value} (hown : W.ownsRow base e 1 v n xs) {s : ByteArray} (hl : n+s.size≤140737488355328)
  (hr : (Builtin.append_ #[t,u] ty #[v,.string s]).run P W = .ok v1 W1) : v1.ownBlock=v.ownBlock ∨ ∃ b,v1.ownBlock=some b∧W.heap.size≤b:=by
 have hxl : xs.length=n:=by simpa using hown.1
 rcases hown.2 with ⟨rfl,rfl⟩|⟨g,cap,cur,rfl,_,hg,hnc,_,hcs,_⟩
 ·
  obtain ⟨v2,w2,h2,hown2,_⟩:=Lib.run_append_own_string (P:=P) W W.heap.size t u ty e i ht hu hi hz hsize hby (.slice none 0 0) 0 [] (World.ownsRow_nil W _ e 1) s (by simp only [maxLen];omega) hl (Nat.le_refl _)
  rw [hr] at h2;injection h2 with h2 _;subst h2;rcases hown2.2 with ⟨rfl,_⟩|⟨g,cap,cur,rfl,hbg,_⟩
  ·
   exact .inl rfl
  exact .inr ⟨g,rfl,hbg⟩
 by_cases hroom : n+s.size≤cap
 ·
  have hcs' : cur.size=cap:=by simpa using hcs
  rw [Lib.run_append_room_string (P:=P) W t u ty e i ht hu hi hsize g n cap cur hg s hroom (by omega)] at hr;injection hr with hr _;subst hr;exact .inl rfl
 have holds : ∀ j u,xs[j]? = some u→W.cell? ((⟨g,0,none⟩ : Addr).add j)=some u:=hown.cells (g:=g) rfl;rw [Lib.run_append_grow_string (P:=P) W t u ty e i (.int .u8 0) ht hu hi hz ⟨g,0,none⟩ n cap xs (by rw [hsize];simpa using hxl) holds s (by omega) (by omega) (by rw [hby];exact growslice_fits (by omega) (by omega))] at hr;injection hr with hr _;subst hr;exact .inr ⟨_,rfl,Nat.le_refl _⟩
theorem str_run {w0 W : World} (base : Nat) (s x : Operand) (t u e : TypeId)
  (ho : o.op = .call { callee:=.builtin .append,args:=#[s,x],argTypes:=#[t,u] })
  (ht : P.underlying t=some (.slice e)) (hu : P.underlying u=some .string) (hinfo : (P.info? e).map (fun i=>(i.zero,i.size,i.bytes))=some (some (.int .u8 0),1,1))
  (v : Value) (xs : List Int) (y : ByteArray) (hs : a.eval s=v) (hx : a.eval x = .string y)
  (HO : W.ownsRow base e 1 v xs.length (nums .u8 xs)) (HB : Below base w0 W) (hbase : base≤W.heap.size) (hl : xs.length+y.size≤140737488355328) :
  ∃ v1 w1,(∀ (K : Act→World→Prop) (Q2 : Exit→Act→World→Prop),K (a.put o.dst v1) w1→Oper.wp P o a W K Q2)∧w1.ownsRow base e 1 v1 (xs++bytesOf y).length (nums .u8 (xs++bytesOf y))∧Below base w0 w1∧W.grownBy w1 v.ownBlock∧(v1.ownBlock=v.ownBlock ∨ ∃ b,v1.ownBlock=some b∧W.heap.size≤b):=by
 obtain ⟨i0,hi,hzz⟩:=Option.map_eq_some_iff.1 hinfo;simp only [Prod.mk.injEq] at hzz;obtain ⟨hz0,hz1,hz2⟩:=hzz;obtain ⟨v1,w1,hr,hown,hg,_⟩:=Lib.run_append_own_string (P:=P) W base t u o.type e i0 ht hu hi hz0 hz1 hz2 v xs.length (nums .u8 xs) HO y (by simp only [maxLen];omega) hl hbase;have hl2 : (xs++bytesOf y).length=xs.length+y.size:=by rw [List.length_append,bytesOf_length]
 have hc : nums .u8 (xs++bytesOf y)=nums .u8 xs++Lib.strCells y:=by
  rw [nums_append]
  congr 1
  simp [nums,bytesOf,Lib.strCells]
 refine ⟨v1,w1,fun K Q2 hK=>?_,by rw [hl2,hc];exact hown,HB.grown hg hbase (own_base HO),hg,str_at ht hu hi hz0 hz1 hz2 HO hl hr⟩;unfold Oper.wp execOp;simp only [ho,resolve,invoke,builtin,Sem.run_bind,Sem.run_pure,Result.andThen_ok,List.map_toArray,List.map_cons,List.map_nil,hs,hx,hr];exact hK
theorem print_append_str_go {K : Act→World→Prop} {w0 W : World} (base : Nat) (hw : Region.wanted o (yielded ops a.tmps)=true) (s x : Operand) (t u e : TypeId)
  (ho : o.op = .call { callee:=.builtin .append,args:=#[s,x],argTypes:=#[t,u] })
  (ht : P.underlying t=some (.slice e)) (hu : P.underlying u=some .string) (hinfo : (P.info? e).map (fun i=>(i.zero,i.size,i.bytes))=some (some (.int .u8 0),1,1))
  (v : Value) (xs : List Int) (y : ByteArray) (hs : a.eval s=v) (hx : a.eval x = .string y)
  (HO : W.ownsRow base e 1 v xs.length (nums .u8 xs)) (HB : Below base w0 W) (hbase : base≤W.heap.size) (hl : xs.length+y.size≤140737488355328)
  (h : ∀ v1 w1,w1.ownsRow base e 1 v1 (xs++bytesOf y).length (nums .u8 (xs++bytesOf y))→Below base w0 w1→W.grownBy w1 v.ownBlock→(v1.ownBlock=v.ownBlock ∨ ∃ b,v1.ownBlock=some b∧W.heap.size≤b)→K (a.put o.dst v1) w1) :
  if Region.wanted o (yielded ops a.tmps)=true then Oper.wp P o a W K Q else K (a.put o.dst undef) W:=by
 obtain ⟨v1,w1,hr,h1,h2,h3,h4⟩:=str_run (P:=P) base s x t u e ho ht hu hinfo v xs y hs hx HO HB hbase hl;rw [if_pos hw];exact hr K Q (h v1 w1 h1 h2 h3 h4)
end
end Go.Proofs.YtoinoihiknmnmaaW.PrintMore
end
section
namespace Go.Proofs.Ytoinoihiknmnmaa.Q
open Go.RowKit Go.Proofs.YtoinoihiknmnmaaW.PrintWords Go.Proofs.YtoinoihiknmnmaaW.PrintLast Go.Proofs.YtoinoihiknmnmaaW.PrintMore
attribute [local go_sem] max2_int min2_int max_two min_two max_three min_three max_four min_four max2_str min2_str str_geq str_gtr str_leq
set_option linter.unusedVariables false
set_option linter.unusedSimpArgs false

def Fu.l0 : Nat→Int→List Int→Int→Option (List Int)
 | 0,_,_,_=>none
 | k+1,x0,x3,x6=>if x6<8 then (if 0≤(wrap64 (56 - (wrap64 (8*x6)))) then (if 0≤x6 then (if x6<(x3.length : Int) then (Fu.l0 k x0 (x3.set (x6 : Int).toNat ((shr .i64 x0 (wrap64 (56 - (wrap64 (8*x6))))) % 256)) (wrap64 (x6+1))) else (none)) else (none)) else (none)) else (some x3)
def Fu.f (k : Nat) (a0 : Int) : Option (List Int):=if 8≤281474976710656 then (Fu.l0 k a0 (List.replicate 8 0) 0) else (none)
theorem Fu.mono_l : ∀ k,(∀ y0 y1 y2,LeO (Fu.l0 k y0 y1 y2) (Fu.l0 (k+1) y0 y1 y2))
 | 0=>fun _ _ _ r h=>by simp [Fu.l0] at h
 | k+1=>by
  have ih0:=Fu.mono_l k;intro y0 y1 y2;unfold Fu.l0
  repeat' first|(with_reducible first|exact ih0 _ _ _|exact zQ _|exact zN _|refine zP ?_ ?_|refine zO ?_ (fun _=>?_))|refine zP ?_ ?_|refine zO ?_ (fun _=>?_)
theorem Fu.mono : ∀ a0 k,LeO (Fu.f k a0) (Fu.f (k+1) a0):=by
 intro a0 k;have ih0:=Fu.mono_l k;unfold Fu.f
 repeat' first|(with_reducible first|exact ih0 _ _ _|exact zQ _|exact zN _|refine zP ?_ ?_|refine zO ?_ (fun _=>?_))|refine zP ?_ ?_|refine zO ?_ (fun _=>?_)
set_option maxHeartbeats 8000000 in
set_option maxRecDepth 100000 in
theorem Fu.calls (k : Nat) (a0 : Int) (r : List Int) (w : World) (h : Fu.f k a0=some r) :
  Calls Try.prog 75 #[.int .i64 a0] w fun e w' => ∃ v0_ : Value,e = .returned (v0_)∧Kd.R (Kd.int .u8) 5 w' w.heap.size (fun _=>True) v0_ r∧Below w.heap.size w w':=by
 have HB:=zh (Below.refl w.heap.size w);have H : (if 8≤281474976710656 then (Fu.l0 k a0 (List.replicate 8 0) 0) else (none))=some r:=h;clear h
 by_cases c2 : 8≤281474976710656
 ·
  rw [if_pos c2] at H
  have c2b0:=eq_true c2;have c2b1 : decide (8≤281474976710656)=true:=decide_eq_true c2;clear c2;obtain ⟨y345,hy345⟩ : ∃ y_ : List Int,y_=(List.replicate 8 0):=⟨_,rfl⟩;replace H : (Fu.l0 k a0 y345 0)=some r:=by first|(rw [hy345];with_reducible exact H)|(have H2_:=(Option.bind_some _ _).symm.trans H;rw [hy345];with_reducible exact H2_)|(have H2_:=(Option.bind_some _ _).symm.trans H;with_reducible exact H2_)|with_reducible exact H|(rw [hy345];exact H)|exact H
  have Ny345:=zh hy345;clear hy345;have H':=zh H;clear H
  go_enter Try.func75,Try.ntmps75
  go_wp2_with (first|((with_reducible refine zK (N:=5) rfl ?_);refine Kd.R_make (Kd.int .u8) _ 5 rfl (N:=5) rfl 33 _ _ rfl 8 rfl rfl Try.underlying33 (.int .u8 0) 1 info5 rfl jB jH 0 (ok:=fun _=>True) (okp:=fun _=>True) rfl (fun _ hk=>hk) trivial jH jH (Below.refl _ _) (ye _) ?_;intro v346 w3 ho4 hb hg_ hnew_;clear hg_ hnew_;(first|rw [← Ny345.out] at ho4|(simp only [Int.reduceToNat] at ho4;rw [← Ny345.out] at ho4));have HO347:=zh (yy ho4 (zB jG));replace HB:=zh (zC jG hb);clear hb ho4))
  go_loopg [6] k (fun kq v6 w' => ∃ (x3_1 : List Int) (x6_1 : Int),v6 = .int .i64 x6_1∧Aside0 (Fu.l0 kq a0 x3_1 x6_1=some r)∧Aside0 (kq≤k)∧Aside0 (Kd.R (Kd.int .u8) 5 w' w.heap.size (fun _=>True) v346 x3_1)∧Aside0 (Below w.heap.size w w'))
  case atStart=>exact ⟨(y345),(0),jC,H',⟨ye _⟩,⟨by (with_reducible repeat (first|apply zm|apply zn|apply zo));exact HO347.out⟩,⟨jG⟩⟩
  case round =>
   clear H'
   try clear c2 c2b0 c2b1
   try clear p2
   obtain ⟨x3_1,x6_1,rfl,HA,HK1,HO_3,HB⟩:=hrel
   cases gk with
   | zero=>exact absurd HA.out (by simp [Fu.l0])
   | succ k1 =>
    have H:=HA.out;clear HA;simp only [Fu.l0] at H
    by_cases c5 : x6_1<8
    ·
     rw [if_pos c5] at H
     have c5b0 : decide (x6_1<8)=true:=decide_eq_true c5;clear c5;obtain ⟨ji6,hji6⟩ : ∃ j_ : Int,(wrap64 (56 - (wrap64 (8*x6_1))))=j_:=⟨_,rfl⟩;replace H : (if 0≤(ji6) then (if 0≤x6_1 then (if x6_1<(x3_1.length : Int) then (Fu.l0 k1 a0 (x3_1.set (x6_1 : Int).toNat ((shr .i64 a0 (ji6)) % 256)) (wrap64 (x6_1+1))) else (none)) else (none)) else (none))=some r:=by first|(rw [hji6] at H;exact H)|(simp only [hji6] at H ⊢;exact H)
     have hji6w : (IntKind.i64.wrap (56 - (wrap64 (8*x6_1))))=ji6:=(zG _).trans hji6
     by_cases c7 : 0≤(ji6)
     ·
      rw [if_pos c7] at H
      have c7b0:=eq_true c7;have c7b1 : decide (0≤(ji6))=true:=decide_eq_true c7;clear c7;obtain ⟨ji8,hji8⟩ : ∃ j_ : Int,(shr .i64 a0 (ji6))=j_:=⟨_,rfl⟩;replace H : (if 0≤x6_1 then (if x6_1<(x3_1.length : Int) then (Fu.l0 k1 a0 (x3_1.set (x6_1 : Int).toNat ((ji8) % 256)) (wrap64 (x6_1+1))) else (none)) else (none))=some r:=by first|(rw [hji8] at H;exact H)|(simp only [hji8] at H ⊢;exact H)
      have hji8_ : (a0 / 2 ^ min (ji6).toNat 64)=ji8:=hji8;have hji8z : (ji6)≤64→(a0 / 2 ^ (ji6).toNat)=ji8:=shr_small hji8
      by_cases c9 : 0≤x6_1
      ·
       rw [if_pos c9] at H
       have c9b0 : decide (0≤x6_1)=true:=decide_eq_true c9;clear c9
       by_cases c10 : x6_1<(x3_1.length : Int)
       ·
        rw [if_pos c10] at H
        have c10b0 : decide (x6_1<(x3_1.length : Int))=true:=decide_eq_true c10;clear c10;obtain ⟨y348,hy348⟩ : ∃ y_ : List Int,y_=(x3_1.set (x6_1 : Int).toNat ((ji8) % 256)):=⟨_,rfl⟩;replace H : (Fu.l0 k1 a0 y348 (wrap64 (x6_1+1)))=some r:=by first|(rw [hy348];with_reducible exact H)|(have H2_:=(Option.bind_some _ _).symm.trans H;rw [hy348];with_reducible exact H2_)|(have H2_:=(Option.bind_some _ _).symm.trans H;with_reducible exact H2_)|with_reducible exact H|(rw [hy348];exact H)|exact H
        have Ny348:=zh hy348;clear hy348;have H':=zh H;clear H;have p11 : 0≤(x6_1 : Int):=zy jE;have q11 : (x6_1 : Int)<((x3_1.length : Int) : Int):=zy jE;obtain ⟨go11,co11,eo11,gb11,gl11,cl11,HG11⟩:=Kd.R_form HO_3.out jH;(first|cases eo11|(injection eo11 with ea_ en_ ec_;(first|subst ea_|(injection ea_ with ea_;subst ea_));subst ec_;clear en_));have GB11:=zh gb11;have GG11:=zh HG11;clear gb11 gl11 HG11;obtain ⟨hx11_0,hf11_0⟩:=Kd.R_celln 0 HO_3.out (x6_1 : Int) p11 q11;replace p11:=eq_true p11;replace q11:=eq_true q11;have HP12:=Kd.R_putg HO_3.out (x6_1 : Int) ((ji8) % 256)
        go_wp2_with (first|((with_reducible refine gate_store (t:=5) (p:=17) rfl ?_);refine store_event (t:=5) (p:=17) (v:=?vo_w13) (w1:=(wr.setCell ⟨go11,(x6_1 : Int).toNat,none⟩ (.int .u8 ((ji8) % 256)))) ?hg ?ho ?hn ?hr ?_;(case ho=>rfl);(case hg=>rfl);(case hn=>rfl);(case hr=>go_simp <;> rfl);intro w13 hw;have hg : wr.grownBy w13 (some go11):=(by rw [hw];exact HP12.2);have hp_ : Kd.R (Kd.int .u8) 5 w13 w.heap.size (fun _=>True) (.slice (some ⟨go11,0,none⟩) x3_1.length co11) y348:=(by rw [hw,Ny348.out];exact HP12.1);clear HP12;replace HO_3:=zh (hp_);replace HB:=zh ((by rw [hw];exact zd (HB.out) GB11.out : Below w.heap.size w w13));clear hg hw hp_))
        go_roundg k1
        case measure=>have:=HK1.out;omega
        case rel=>exact ⟨(y348),(wrap64 (x6_1+1)),jC,H',⟨jZ⟩,⟨jBQ⟩,⟨jG⟩⟩
       rw [if_neg c10] at H;exact absurd H (by simp)
      rw [if_neg c9] at H;exact absurd H (by simp)
     rw [if_neg c7] at H;exact absurd H (by simp)
    rw [if_neg c5] at H;have c5b0 : decide (x6_1<8)=false:=decide_eq_false c5;clear c5;obtain rfl:=zU H
    go_wp2
    go_ret
    exact ⟨_,jF,jBQ,jG⟩
 rw [if_neg c2] at H;exact absurd H (by simp)

end Go.Proofs.Ytoinoihiknmnmaa.Q
end

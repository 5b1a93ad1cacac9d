/- Texts of this claim, merged by a program of this session. -/
import Derived.Test.YtdjnplkpahgnmaaKLawFnKeysp24
section
namespace Go.Proofs.Ytdjnplkpahgnmaa.Q
open Go.RowKit Go.Proofs.YtdjnplkpahgnmaaW.PrintWords Go.Proofs.YtdjnplkpahgnmaaW.PrintLast Go.Proofs.YtdjnplkpahgnmaaW.PrintMore
attribute [local go_sem] max2_int min2_int max_two min_two max_three min_three max_four min_four max2_str min2_str str_geq str_gtr str_leq   -- for this text's walks alone
set_option linter.unusedVariables false
set_option linter.unusedSimpArgs false

mutual
def F4.l0 : Nat→List (S68)→ByteArray→Bool→Option ((List (S68))×Bool)
 | 0,_,_,_=>none
 | k+1,x5,x327000,x327001=>if x327000.toList=([] : List UInt8) then (F4.j1 k x5 false x327000 x327001) else (F4.j1 k x5 (!x327001) x327000 x327001)
def F4.j1 : Nat→List (S68)→Bool→ByteArray→Bool→Option ((List (S68))×Bool)
 | 0,_,_,_,_=>none
 | k+1,x5,x22,x327000,x327001=>if x22=true then ((Fe.f k x327000 x327001 1).bind fun bt330=>((Fr.f bt330.2.1 bt330.2.2 bt330.1).bind fun bt333=>((Fl.f k bt333.2.1 bt333.2.2).bind fun bt336=>(if x5.length<2932031007402 then (F4.l0 k (x5 ++ [(⟨bt333.1,(⟨bt336.1,bt336.2.1,bt336.2.2.1⟩ : S24)⟩ : S68)]) bt336.2.2.2.1 bt336.2.2.2.2) else (none))))) else (some (x5,!x327001))
end
def F4.f (k : Nat) (a0_0 : Int) (a0_1 : Int) (a0_2 : ByteArray) : Option ((List (S68))×Bool):=F4.l0 k (([] : List (S68))) a0_2 false
theorem F4.mono_l : ∀ k,(∀ y0 y1 y2,LeO (F4.l0 k y0 y1 y2) (F4.l0 (k+1) y0 y1 y2))∧(∀ y0 y1 y2 y3,LeO (F4.j1 k y0 y1 y2 y3) (F4.j1 (k+1) y0 y1 y2 y3))
 | 0=>⟨fun _ _ _ r h=>by simp [F4.l0] at h,fun _ _ _ _ r h=>by simp [F4.j1] at h⟩
 | k+1=>by
  obtain ⟨ih0,ih1⟩:=F4.mono_l k;refine ⟨?_,?_⟩
  ·
   intro y0 y1 y2
   unfold F4.l0
   repeat' first|(with_reducible first|exact ih0 _ _ _|exact ih1 _ _ _ _|exact Fe.mono _ _ _ _|exact Fl.mono _ _ _|exact zQ _|exact zN _|refine zP ?_ ?_|refine zO ?_ (fun _=>?_))|refine zP ?_ ?_|refine zO ?_ (fun _=>?_)
  intro y0 y1 y2 y3;unfold F4.j1
  repeat' first|(with_reducible first|exact ih0 _ _ _|exact ih1 _ _ _ _|exact Fe.mono _ _ _ _|exact Fl.mono _ _ _|exact zQ _|exact zN _|refine zP ?_ ?_|refine zO ?_ (fun _=>?_))|refine zP ?_ ?_|refine zO ?_ (fun _=>?_)
theorem F4.mono : ∀ a0 a1 a2 k,LeO (F4.f k a0 a1 a2) (F4.f (k+1) a0 a1 a2):=by
 intro a0 a1 a2 k;obtain ⟨ih0,ih1⟩:=F4.mono_l k;unfold F4.f
 repeat' first|(with_reducible first|exact ih0 _ _ _|exact ih1 _ _ _ _|exact Fe.mono _ _ _ _|exact Fl.mono _ _ _|exact zQ _|exact zN _|refine zP ?_ ?_|refine zO ?_ (fun _=>?_))|refine zP ?_ ?_|refine zO ?_ (fun _=>?_)
set_option maxHeartbeats 8000000 in
set_option maxRecDepth 100000 in
theorem F4.calls (k : Nat) (a0_0 : Int) (a0_1 : Int) (a0_2 : ByteArray) (r1 : List (S68)) (r2 : Bool) (w : World) (h : F4.f k a0_0 a0_1 a0_2=some (r1,r2)) :
  Calls Try.prog 35 #[.agg #[.int .i64 a0_0,.int .i64 a0_1,.string a0_2]] w fun e w' => ∃ v0_ : Value,e = .returned (.tuple #[v0_,.bool r2])∧Kd.R k68 68 w' w.heap.size (fun _=>True) v0_ r1∧Below w.heap.size w w':=by
 have hu24:=Try.underlying24;have hu48:=Try.underlying48;have hu68:=Try.underlying68;have HB:=zh (Below.refl w.heap.size w);have H : (F4.l0 k (([] : List (S68))) a0_2 false)=some (r1,r2):=h;clear h;obtain ⟨y327,hy327⟩ : ∃ y_ : List (S68),y_=(([] : List (S68))):=⟨_,rfl⟩;replace H : (F4.l0 k y327 a0_2 false)=some (r1,r2):=by first|(rw [hy327];with_reducible exact H)|(have H2_:=(Option.bind_some _ _).symm.trans H;rw [hy327];with_reducible exact H2_)|(have H2_:=(Option.bind_some _ _).symm.trans H;with_reducible exact H2_)|with_reducible exact H|(rw [hy327];exact H)|exact H
 have Ny327:=zh hy327;clear hy327;have H':=zh H;clear H
 go_enter Try.func35,Try.ntmps35
 go_wp2_with (first|((with_reducible refine zK (N:=1) rfl ?_);refine zI ?hg (N:=1) ?hd (cs:=#[.int .i64 a0_0,.int .i64 a0_1,.string a0_2]) (t:=24) ?hr ?_;(case hd=>rfl);(case hg=>rfl);(case hr=>go_simp <;> rfl);intro gb325 hg w2 hbox hb;have BK325:=zh (hbox);have hH_:=cH jD hb hg;have GW325:=zh hH_.1;have GE325:=GW325;replace HB:=zh hH_.2;clear hb hbox hg hH_;obtain ⟨hcz3_0,hcz3_1,hcz3_2,hfz3_0,hfz3_1,hfz3_2⟩:=cB3 BK325.out)|((with_reducible refine zK (N:=9) rfl ?_);refine zI ?hg (N:=9) ?hd (cs:=#[.string a0_2,.bool false]) (t:=48) ?hr ?_;(case hd=>rfl);(case hg=>rfl);(case hr=>go_simp <;> rfl);intro gb326 hg w4 hbox hb;have BK326:=zh (hbox);have hH_:=cH jB4 hb hg;have GW326:=zh hH_.1;have GE326:=GW326;replace HB:=zh hH_.2;have NB325_326:=zh ((jB5 : gb325≠gb326));have NB326_325:=zh NB325_326.out.symm;replace BK325:=zh (cD BK325.out jm hb);clear hb hbox hg hH_)|((with_reducible refine zK (N:=10) rfl ?_);refine Kd.R_lit k68 _ 68 ?hg (N:=10) ?hd (xs:=([] : List (S68))) (inner:=[]) (ok:=fun _=>True) (okp:=fun _=>True) ?hr ?hp (fun _ hk=>hk) trivial (Below.refl _ _) (ye _) (by simp) ?_;(case hd=>rfl);(case hg=>rfl);(case hr=>go_simp <;> rfl);(case hp=>exact (Reps.none _ _));intro v328 w5 ho6 hb hg_ hnew_;clear hg_ hnew_;(first|rw [← Ny327.out] at ho6|(simp only [Int.reduceToNat] at ho6;rw [← Ny327.out] at ho6));have HO329:=zh (yy ho6 (zB ju));replace BK325:=zh (cD BK325.out jm hb);replace BK326:=zh (cD BK326.out jAW hb);replace HB:=zh (zC ju hb);clear hb ho6))
 repeat (go_quiet (first|((with_reducible refine zK (N:=1) rfl ?_);refine zI ?hg (N:=1) ?hd (cs:=#[.int .i64 a0_0,.int .i64 a0_1,.string a0_2]) (t:=24) ?hr ?_;(case hd=>rfl);(case hg=>rfl);(case hr=>go_simp <;> rfl);intro gb325 hg w2 hbox hb;have BK325:=zh (hbox);have hH_:=cH jD hb hg;have GW325:=zh hH_.1;have GE325:=GW325;replace HB:=zh hH_.2;clear hb hbox hg hH_;obtain ⟨hcz3_0,hcz3_1,hcz3_2,hfz3_0,hfz3_1,hfz3_2⟩:=cB3 BK325.out)|((with_reducible refine zK (N:=9) rfl ?_);refine zI ?hg (N:=9) ?hd (cs:=#[.string a0_2,.bool false]) (t:=48) ?hr ?_;(case hd=>rfl);(case hg=>rfl);(case hr=>go_simp <;> rfl);intro gb326 hg w4 hbox hb;have BK326:=zh (hbox);have hH_:=cH jB4 hb hg;have GW326:=zh hH_.1;have GE326:=GW326;replace HB:=zh hH_.2;have NB325_326:=zh ((jB5 : gb325≠gb326));have NB326_325:=zh NB325_326.out.symm;replace BK325:=zh (cD BK325.out jm hb);clear hb hbox hg hH_)|((with_reducible refine zK (N:=10) rfl ?_);refine Kd.R_lit k68 _ 68 ?hg (N:=10) ?hd (xs:=([] : List (S68))) (inner:=[]) (ok:=fun _=>True) (okp:=fun _=>True) ?hr ?hp (fun _ hk=>hk) trivial (Below.refl _ _) (ye _) (by simp) ?_;(case hd=>rfl);(case hg=>rfl);(case hr=>go_simp <;> rfl);(case hp=>exact (Reps.none _ _));intro v328 w5 ho6 hb hg_ hnew_;clear hg_ hnew_;(first|rw [← Ny327.out] at ho6|(simp only [Int.reduceToNat] at ho6;rw [← Ny327.out] at ho6));have HO329:=zh (yy ho6 (zB ju));replace BK325:=zh (cD BK325.out jm hb);replace BK326:=zh (cD BK326.out jAW hb);replace HB:=zh (zC ju hb);clear hb ho6));try go_wp2_with (first|((with_reducible refine zK (N:=1) rfl ?_);refine zI ?hg (N:=1) ?hd (cs:=#[.int .i64 a0_0,.int .i64 a0_1,.string a0_2]) (t:=24) ?hr ?_;(case hd=>rfl);(case hg=>rfl);(case hr=>go_simp <;> rfl);intro gb325 hg w2 hbox hb;have BK325:=zh (hbox);have hH_:=cH jD hb hg;have GW325:=zh hH_.1;have GE325:=GW325;replace HB:=zh hH_.2;clear hb hbox hg hH_;obtain ⟨hcz3_0,hcz3_1,hcz3_2,hfz3_0,hfz3_1,hfz3_2⟩:=cB3 BK325.out)|((with_reducible refine zK (N:=9) rfl ?_);refine zI ?hg (N:=9) ?hd (cs:=#[.string a0_2,.bool false]) (t:=48) ?hr ?_;(case hd=>rfl);(case hg=>rfl);(case hr=>go_simp <;> rfl);intro gb326 hg w4 hbox hb;have BK326:=zh (hbox);have hH_:=cH jB4 hb hg;have GW326:=zh hH_.1;have GE326:=GW326;replace HB:=zh hH_.2;have NB325_326:=zh ((jB5 : gb325≠gb326));have NB326_325:=zh NB325_326.out.symm;replace BK325:=zh (cD BK325.out jm hb);clear hb hbox hg hH_)|((with_reducible refine zK (N:=10) rfl ?_);refine Kd.R_lit k68 _ 68 ?hg (N:=10) ?hd (xs:=([] : List (S68))) (inner:=[]) (ok:=fun _=>True) (okp:=fun _=>True) ?hr ?hp (fun _ hk=>hk) trivial (Below.refl _ _) (ye _) (by simp) ?_;(case hd=>rfl);(case hg=>rfl);(case hr=>go_simp <;> rfl);(case hp=>exact (Reps.none _ _));intro v328 w5 ho6 hb hg_ hnew_;clear hg_ hnew_;(first|rw [← Ny327.out] at ho6|(simp only [Int.reduceToNat] at ho6;rw [← Ny327.out] at ho6));have HO329:=zh (yy ho6 (zB ju));replace BK325:=zh (cD BK325.out jm hb);replace BK326:=zh (cD BK326.out jAW hb);replace HB:=zh (zC ju hb);clear hb ho6)))
 go_loopg [5] k (fun kq v5 w' => ∃ (x5_1 : List (S68)) (x327000_1 : ByteArray) (x327001_1 : Bool),Aside0 (F4.l0 kq x5_1 x327000_1 x327001_1=some (r1,r2))∧Aside0 (kq≤k)∧Aside0 (Kd.R k68 68 w' w.heap.size (fun _=>True) v5 x5_1)∧Aside0 (w'.heap[gb325]? = some (.cells #[.int .i64 a0_0,.int .i64 a0_1,.string a0_2] 24 (0,0)))∧Aside0 (w'.heap[gb326]? = some (.cells #[.string x327000_1,.bool x327001_1] 48 (0,0)))∧Aside0 (Below w.heap.size w w'))
 case atStart=>exact ⟨(y327),(a0_2),(false),H',⟨ye _⟩,⟨by (with_reducible repeat (first|apply zm|apply zn|apply zo));exact HO329.out⟩,⟨jm⟩,⟨jAW⟩,⟨ju⟩⟩
 case round =>
  clear H'
  try clear p2
  try clear c3
  try clear hcz3_0 hcz3_1 hcz3_2 hfz3_0 hfz3_1 hfz3_2
  obtain ⟨x5_1,x327000_1,x327001_1,HA,HK1,HO_5,BK325,BK326,HB⟩:=hrel
  cases gk with
  | zero=>exact absurd HA.out (by simp [F4.l0])
  | succ k1 =>
   have H:=HA.out;clear HA;simp only [F4.l0] at H;have HC7:=zh H;clear H
   go_upto_region 2 with (fail)
   repeat (go_quiet (fail);go_upto_region 2 with (fail))
   go_cut [22] (fun v22 wc => ∃ (kq : Nat) (x22_6 : Bool),v22 = .bool x22_6∧Aside0 (F4.j1 kq x5_1 x22_6 x327000_1 x327001_1=some (r1,r2))∧Aside0 (kq≤k1)∧Aside0 (Kd.R k68 68 wc w.heap.size (fun _=>True) u5 x5_1)∧Aside0 (wc.heap[gb325]? = some (.cells #[.int .i64 a0_0,.int .i64 a0_1,.string a0_2] 24 (0,0)))∧Aside0 (wc.heap[gb326]? = some (.cells #[.string x327000_1,.bool x327001_1] 48 (0,0)))∧Aside0 (Below w.heap.size w wc))
   case first =>
    have H:=HC7.out;clear HC7
    by_cases c8 : x327000_1.toList=([] : List UInt8)
    ·
     rw [if_pos c8] at H
     have c8b0 : (x327000_1.toList == ([] : List UInt8))=true:=ya.mpr c8;have c8b1 : (x327000_1.toList != ([] : List UInt8))=false:=zX.mpr c8;clear c8;(first|rw [c8b0]|(simp only [zG,zH];rw [c8b0])|skip);have H':=zh H;clear H;have hnb9:=NB326_325.out;have hnc9:=NB325_326.out;obtain ⟨hcz10_0,hcz10_1,hfz10_0,hfz10_1⟩:=cB2 BK326.out
     go_wp2
     repeat (go_quiet (fail);try go_wp2)
     go_meet
     case rel=>exact ⟨_,(false),jE,H',⟨jBX⟩,⟨jM⟩,⟨jm⟩,⟨jAW⟩,⟨ju⟩⟩
    rw [if_neg c8] at H;have c8b0 : (x327000_1.toList == ([] : List UInt8))=false:=zY.mpr c8;have c8b1 : (x327000_1.toList != ([] : List UInt8))=true:=zZ.mpr c8;(first|rw [c8b0]|(simp only [zG,zH];rw [c8b0])|skip);have H':=zh H;clear H;have hnb11:=NB326_325.out;have hnc11:=NB325_326.out;obtain ⟨hcz12_0,hcz12_1,hfz12_0,hfz12_1⟩:=cB2 BK326.out
    go_wp2
    repeat (go_quiet (fail);try go_wp2)
    go_meet
    case rel=>exact ⟨_,(!x327001_1),jE,H',⟨jBX⟩,⟨jM⟩,⟨jm⟩,⟨jAW⟩,⟨ju⟩⟩
   case rest =>
    clear HC7
    try clear c1
    try clear p2
    try clear c3 c8 c8b0 c8b1 c9 c11
    try clear hcz10_0 hcz10_1
    try clear hcz12_0 hcz12_1
    try clear hcz3_0 hcz3_1 hcz3_2
    try clear hfz10_0 hfz10_1
    try clear hfz12_0 hfz12_1
    try clear hfz3_0 hfz3_1 hfz3_2
    try clear p2
    obtain ⟨kq,x22_6,rfl,HA,HJ6,HO_5,BK325,BK326,HB⟩:=hcut
    cases kq with
    | zero=>exact absurd HA.out (by simp [F4.j1])
    | succ kj6 =>
     have H:=HA.out;clear HA;simp only [F4.j1] at H
     by_cases c13 : x22_6=true
     ·
      subst c13
      rw [if_pos rfl] at H;replace H:=zT.mp H;obtain ⟨⟨t330,t331,t332⟩,A140,H⟩:=H;have A14:=zh A140;clear A140;replace H:=zT.mp H;obtain ⟨⟨t333,t334,t335⟩,A150,H⟩:=H;have A15:=zh A150;clear A150;replace H:=zT.mp H;obtain ⟨⟨t336,t337,t338,t339,t340⟩,A160,H⟩:=H;have A16:=zh A160;clear A160
      by_cases c17 : x5_1.length<2932031007402
      ·
       rw [if_pos c17] at H
       have LMc17:=zh c17;clear c17;obtain ⟨y341,hy341⟩ : ∃ y_ : List (S68),y_=(x5_1 ++ [(⟨t333,(⟨t336,t337,t338⟩ : S24)⟩ : S68)]):=⟨_,rfl⟩;replace H : (F4.l0 kj6 y341 t339 t340)=some (r1,r2):=by first|(rw [hy341];with_reducible exact H)|(have H2_:=(Option.bind_some _ _).symm.trans H;rw [hy341];with_reducible exact H2_)|(have H2_:=(Option.bind_some _ _).symm.trans H;with_reducible exact H2_)|with_reducible exact H|(rw [hy341];exact H)|exact H
       have Ny341:=zh hy341;clear hy341;have H':=zh H;clear H;have HI326:=zh (show IsS48 w wc gb326 x327000_1 x327001_1 from ⟨BK326.out,GE326.out⟩)
       go_wp2_with (first|(go_at_call 47;(with_reducible refine (Fe.calls kj6  gb326 x327000_1 x327001_1 1 t330 t331 t332 w _ ?side1 ?side2 A14.out).mono ?_);(case side1=>repeat (with_reducible first|exact HI326.out|apply IsS48.alloc|apply IsS48.drewN|apply IsS48.drew|apply IsS48.set_0|apply IsS48.set_1|refine IsS48.far ?_ NB326_325.out _));(case side2=>repeat (with_reducible first|exact HB.out|apply za|apply zb|apply zc|refine zd ?_ (IsS48.ge HI326.out)|refine zd ?_ GE325.out));rintro e w18 ⟨rfl,hi,hb,hk⟩;replace HO_5:=zh (zM (Kd.R_keep (IsS48.apart (show IsS48 w _ gb326 x327000_1 x327001_1 from by repeat (with_reducible first|exact HI326.out|apply IsS48.alloc|apply IsS48.drewN|apply IsS48.drew|apply IsS48.set_0|apply IsS48.set_1|refine IsS48.far ?_ NB326_325.out _)) jM jC) hk (fun _ h=>h.2)) (fun _ h=>h.1));replace BK325:=zh (KeepBut.blk hk (g':=gb325) (o:=.cells #[.int .i64 a0_0,.int .i64 a0_1,.string a0_2] 24 (0,0)) jm NB325_326.out (by simp));replace HB:=zh (hb);replace BK326:=zh ((show _∧_ from hi).1);clear HI326;(try clear hb);(try clear hb2);(try clear hk);(try clear hi);have HI326:=zh (show IsS48 w w18 gb326 t331 t332 from ⟨BK326.out,GE326.out⟩))|(go_at_call 48;(with_reducible refine (Fr.calls  gb326 t331 t332 t330 t333 t334 t335 w _ ?side1 ?side2 A15.out).mono ?_);(case side1=>repeat (with_reducible first|exact HI326.out|apply IsS48.alloc|apply IsS48.drewN|apply IsS48.drew|apply IsS48.set_0|apply IsS48.set_1|refine IsS48.far ?_ NB326_325.out _));(case side2=>repeat (with_reducible first|exact HB.out|apply za|apply zb|apply zc|refine zd ?_ (IsS48.ge HI326.out)|refine zd ?_ GE325.out));rintro e w19 ⟨rfl,hi,hb,hk⟩;replace HO_5:=zh (zM (Kd.R_keep (IsS48.apart (show IsS48 w _ gb326 t331 t332 from by repeat (with_reducible first|exact HI326.out|apply IsS48.alloc|apply IsS48.drewN|apply IsS48.drew|apply IsS48.set_0|apply IsS48.set_1|refine IsS48.far ?_ NB326_325.out _)) jM jC) hk (fun _ h=>h.2)) (fun _ h=>h.1));replace BK325:=zh (KeepBut.blk hk (g':=gb325) (o:=.cells #[.int .i64 a0_0,.int .i64 a0_1,.string a0_2] 24 (0,0)) jm NB325_326.out (by simp));replace HB:=zh (hb);replace BK326:=zh ((show _∧_ from hi).1);clear HI326;(try clear hb);(try clear hb2);(try clear hk);(try clear hi);have HI326:=zh (show IsS48 w w19 gb326 t334 t335 from ⟨BK326.out,GE326.out⟩))|(go_at_call 57;(with_reducible refine (Fl.calls kj6  gb326 t334 t335 t336 t337 t338 t339 t340 w _ ?side1 ?side2 A16.out).mono ?_);(case side1=>repeat (with_reducible first|exact HI326.out|apply IsS48.alloc|apply IsS48.drewN|apply IsS48.drew|apply IsS48.set_0|apply IsS48.set_1|refine IsS48.far ?_ NB326_325.out _));(case side2=>repeat (with_reducible first|exact HB.out|apply za|apply zb|apply zc|refine zd ?_ (IsS48.ge HI326.out)|refine zd ?_ GE325.out));rintro e w20 ⟨rfl,hi,hb,hk⟩;replace HO_5:=zh (zM (Kd.R_keep (IsS48.apart (show IsS48 w _ gb326 t334 t335 from by repeat (with_reducible first|exact HI326.out|apply IsS48.alloc|apply IsS48.drewN|apply IsS48.drew|apply IsS48.set_0|apply IsS48.set_1|refine IsS48.far ?_ NB326_325.out _)) jM jC) hk (fun _ h=>h.2)) (fun _ h=>h.1));replace BK325:=zh (KeepBut.blk hk (g':=gb325) (o:=.cells #[.int .i64 a0_0,.int .i64 a0_1,.string a0_2] 24 (0,0)) jm NB325_326.out (by simp));replace HB:=zh (hb);replace BK326:=zh ((show _∧_ from hi).1);clear HI326;(try clear hb);(try clear hb2);(try clear hk);(try clear hi))|((with_reducible refine yB (b:=.append) (xs:=#[.tmp 23,.tmp 31]) rfl ?_);at_builtin;refine Kd.R_append k68 (w0:=w) w.heap.size rfl (.tmp 23) (.tmp 31) 63 68 (.agg #[(.string ⟨#[]⟩),(.int .i64 0),(.int .i64 0),(.string ⟨#[]⟩)]) 48 rfl Try.underlying63 info68 rfl jC jH u5 x5_1 (⟨t333,(⟨t336,t337,t338⟩ : S24)⟩ : S68) [.string t333,.int .i64 t336,.int .i64 t337,.string t338] (fun _=>True) (fun _=>False) rfl rfl ?aP (fun _ hk=>hk.elim) ?aF ?aO ?aB ?aS ?aL ?_;(case aP=>exact k68_mkM _ _ _ (⟨t333,(⟨t336,t337,t338⟩ : S24)⟩ : S68));(case aB=>exact ju);(case aF=>exact (fun _ _=>trivial));(case aO=>exact jM);(case aS=>exact (zB ju));(case aL=>have:=LMc17.out;omega);intro v342 w21 ho hb hg hat;rw [← Ny341.out] at ho;replace BK325:=zh (yw (g:=gb325) (o:=.cells #[.int .i64 a0_0,.int .i64 a0_1,.string a0_2] 24 (0,0)) jm hg (Kd.R_ne HO_5.out BK325.out jC));replace BK326:=zh (yw (g:=gb326) (o:=.cells #[.string t339,.bool t340] 48 (0,0)) jAW hg (Kd.R_ne HO_5.out BK326.out jC));replace HB:=zh (hb);have HO343:=zh (ho);clear HO_5 ho hb hg hat))
       repeat (go_quiet (first|(go_at_call 47;(with_reducible refine (Fe.calls kj6  gb326 x327000_1 x327001_1 1 t330 t331 t332 w _ ?side1 ?side2 A14.out).mono ?_);(case side1=>repeat (with_reducible first|exact HI326.out|apply IsS48.alloc|apply IsS48.drewN|apply IsS48.drew|apply IsS48.set_0|apply IsS48.set_1|refine IsS48.far ?_ NB326_325.out _));(case side2=>repeat (with_reducible first|exact HB.out|apply za|apply zb|apply zc|refine zd ?_ (IsS48.ge HI326.out)|refine zd ?_ GE325.out));rintro e w18 ⟨rfl,hi,hb,hk⟩;replace HO_5:=zh (zM (Kd.R_keep (IsS48.apart (show IsS48 w _ gb326 x327000_1 x327001_1 from by repeat (with_reducible first|exact HI326.out|apply IsS48.alloc|apply IsS48.drewN|apply IsS48.drew|apply IsS48.set_0|apply IsS48.set_1|refine IsS48.far ?_ NB326_325.out _)) jM jC) hk (fun _ h=>h.2)) (fun _ h=>h.1));replace BK325:=zh (KeepBut.blk hk (g':=gb325) (o:=.cells #[.int .i64 a0_0,.int .i64 a0_1,.string a0_2] 24 (0,0)) jm NB325_326.out (by simp));replace HB:=zh (hb);replace BK326:=zh ((show _∧_ from hi).1);clear HI326;(try clear hb);(try clear hb2);(try clear hk);(try clear hi);have HI326:=zh (show IsS48 w w18 gb326 t331 t332 from ⟨BK326.out,GE326.out⟩))|(go_at_call 48;(with_reducible refine (Fr.calls  gb326 t331 t332 t330 t333 t334 t335 w _ ?side1 ?side2 A15.out).mono ?_);(case side1=>repeat (with_reducible first|exact HI326.out|apply IsS48.alloc|apply IsS48.drewN|apply IsS48.drew|apply IsS48.set_0|apply IsS48.set_1|refine IsS48.far ?_ NB326_325.out _));(case side2=>repeat (with_reducible first|exact HB.out|apply za|apply zb|apply zc|refine zd ?_ (IsS48.ge HI326.out)|refine zd ?_ GE325.out));rintro e w19 ⟨rfl,hi,hb,hk⟩;replace HO_5:=zh (zM (Kd.R_keep (IsS48.apart (show IsS48 w _ gb326 t331 t332 from by repeat (with_reducible first|exact HI326.out|apply IsS48.alloc|apply IsS48.drewN|apply IsS48.drew|apply IsS48.set_0|apply IsS48.set_1|refine IsS48.far ?_ NB326_325.out _)) jM jC) hk (fun _ h=>h.2)) (fun _ h=>h.1));replace BK325:=zh (KeepBut.blk hk (g':=gb325) (o:=.cells #[.int .i64 a0_0,.int .i64 a0_1,.string a0_2] 24 (0,0)) jm NB325_326.out (by simp));replace HB:=zh (hb);replace BK326:=zh ((show _∧_ from hi).1);clear HI326;(try clear hb);(try clear hb2);(try clear hk);(try clear hi);have HI326:=zh (show IsS48 w w19 gb326 t334 t335 from ⟨BK326.out,GE326.out⟩))|(go_at_call 57;(with_reducible refine (Fl.calls kj6  gb326 t334 t335 t336 t337 t338 t339 t340 w _ ?side1 ?side2 A16.out).mono ?_);(case side1=>repeat (with_reducible first|exact HI326.out|apply IsS48.alloc|apply IsS48.drewN|apply IsS48.drew|apply IsS48.set_0|apply IsS48.set_1|refine IsS48.far ?_ NB326_325.out _));(case side2=>repeat (with_reducible first|exact HB.out|apply za|apply zb|apply zc|refine zd ?_ (IsS48.ge HI326.out)|refine zd ?_ GE325.out));rintro e w20 ⟨rfl,hi,hb,hk⟩;replace HO_5:=zh (zM (Kd.R_keep (IsS48.apart (show IsS48 w _ gb326 t334 t335 from by repeat (with_reducible first|exact HI326.out|apply IsS48.alloc|apply IsS48.drewN|apply IsS48.drew|apply IsS48.set_0|apply IsS48.set_1|refine IsS48.far ?_ NB326_325.out _)) jM jC) hk (fun _ h=>h.2)) (fun _ h=>h.1));replace BK325:=zh (KeepBut.blk hk (g':=gb325) (o:=.cells #[.int .i64 a0_0,.int .i64 a0_1,.string a0_2] 24 (0,0)) jm NB325_326.out (by simp));replace HB:=zh (hb);replace BK326:=zh ((show _∧_ from hi).1);clear HI326;(try clear hb);(try clear hb2);(try clear hk);(try clear hi))|((with_reducible refine yB (b:=.append) (xs:=#[.tmp 23,.tmp 31]) rfl ?_);at_builtin;refine Kd.R_append k68 (w0:=w) w.heap.size rfl (.tmp 23) (.tmp 31) 63 68 (.agg #[(.string ⟨#[]⟩),(.int .i64 0),(.int .i64 0),(.string ⟨#[]⟩)]) 48 rfl Try.underlying63 info68 rfl jC jH u5 x5_1 (⟨t333,(⟨t336,t337,t338⟩ : S24)⟩ : S68) [.string t333,.int .i64 t336,.int .i64 t337,.string t338] (fun _=>True) (fun _=>False) rfl rfl ?aP (fun _ hk=>hk.elim) ?aF ?aO ?aB ?aS ?aL ?_;(case aP=>exact k68_mkM _ _ _ (⟨t333,(⟨t336,t337,t338⟩ : S24)⟩ : S68));(case aB=>exact ju);(case aF=>exact (fun _ _=>trivial));(case aO=>exact jM);(case aS=>exact (zB ju));(case aL=>have:=LMc17.out;omega);intro v342 w21 ho hb hg hat;rw [← Ny341.out] at ho;replace BK325:=zh (yw (g:=gb325) (o:=.cells #[.int .i64 a0_0,.int .i64 a0_1,.string a0_2] 24 (0,0)) jm hg (Kd.R_ne HO_5.out BK325.out jC));replace BK326:=zh (yw (g:=gb326) (o:=.cells #[.string t339,.bool t340] 48 (0,0)) jAW hg (Kd.R_ne HO_5.out BK326.out jC));replace HB:=zh (hb);have HO343:=zh (ho);clear HO_5 ho hb hg hat));try go_wp2_with (first|(go_at_call 47;(with_reducible refine (Fe.calls kj6  gb326 x327000_1 x327001_1 1 t330 t331 t332 w _ ?side1 ?side2 A14.out).mono ?_);(case side1=>repeat (with_reducible first|exact HI326.out|apply IsS48.alloc|apply IsS48.drewN|apply IsS48.drew|apply IsS48.set_0|apply IsS48.set_1|refine IsS48.far ?_ NB326_325.out _));(case side2=>repeat (with_reducible first|exact HB.out|apply za|apply zb|apply zc|refine zd ?_ (IsS48.ge HI326.out)|refine zd ?_ GE325.out));rintro e w18 ⟨rfl,hi,hb,hk⟩;replace HO_5:=zh (zM (Kd.R_keep (IsS48.apart (show IsS48 w _ gb326 x327000_1 x327001_1 from by repeat (with_reducible first|exact HI326.out|apply IsS48.alloc|apply IsS48.drewN|apply IsS48.drew|apply IsS48.set_0|apply IsS48.set_1|refine IsS48.far ?_ NB326_325.out _)) jM jC) hk (fun _ h=>h.2)) (fun _ h=>h.1));replace BK325:=zh (KeepBut.blk hk (g':=gb325) (o:=.cells #[.int .i64 a0_0,.int .i64 a0_1,.string a0_2] 24 (0,0)) jm NB325_326.out (by simp));replace HB:=zh (hb);replace BK326:=zh ((show _∧_ from hi).1);clear HI326;(try clear hb);(try clear hb2);(try clear hk);(try clear hi);have HI326:=zh (show IsS48 w w18 gb326 t331 t332 from ⟨BK326.out,GE326.out⟩))|(go_at_call 48;(with_reducible refine (Fr.calls  gb326 t331 t332 t330 t333 t334 t335 w _ ?side1 ?side2 A15.out).mono ?_);(case side1=>repeat (with_reducible first|exact HI326.out|apply IsS48.alloc|apply IsS48.drewN|apply IsS48.drew|apply IsS48.set_0|apply IsS48.set_1|refine IsS48.far ?_ NB326_325.out _));(case side2=>repeat (with_reducible first|exact HB.out|apply za|apply zb|apply zc|refine zd ?_ (IsS48.ge HI326.out)|refine zd ?_ GE325.out));rintro e w19 ⟨rfl,hi,hb,hk⟩;replace HO_5:=zh (zM (Kd.R_keep (IsS48.apart (show IsS48 w _ gb326 t331 t332 from by repeat (with_reducible first|exact HI326.out|apply IsS48.alloc|apply IsS48.drewN|apply IsS48.drew|apply IsS48.set_0|apply IsS48.set_1|refine IsS48.far ?_ NB326_325.out _)) jM jC) hk (fun _ h=>h.2)) (fun _ h=>h.1));replace BK325:=zh (KeepBut.blk hk (g':=gb325) (o:=.cells #[.int .i64 a0_0,.int .i64 a0_1,.string a0_2] 24 (0,0)) jm NB325_326.out (by simp));replace HB:=zh (hb);replace BK326:=zh ((show _∧_ from hi).1);clear HI326;(try clear hb);(try clear hb2);(try clear hk);(try clear hi);have HI326:=zh (show IsS48 w w19 gb326 t334 t335 from ⟨BK326.out,GE326.out⟩))|(go_at_call 57;(with_reducible refine (Fl.calls kj6  gb326 t334 t335 t336 t337 t338 t339 t340 w _ ?side1 ?side2 A16.out).mono ?_);(case side1=>repeat (with_reducible first|exact HI326.out|apply IsS48.alloc|apply IsS48.drewN|apply IsS48.drew|apply IsS48.set_0|apply IsS48.set_1|refine IsS48.far ?_ NB326_325.out _));(case side2=>repeat (with_reducible first|exact HB.out|apply za|apply zb|apply zc|refine zd ?_ (IsS48.ge HI326.out)|refine zd ?_ GE325.out));rintro e w20 ⟨rfl,hi,hb,hk⟩;replace HO_5:=zh (zM (Kd.R_keep (IsS48.apart (show IsS48 w _ gb326 t334 t335 from by repeat (with_reducible first|exact HI326.out|apply IsS48.alloc|apply IsS48.drewN|apply IsS48.drew|apply IsS48.set_0|apply IsS48.set_1|refine IsS48.far ?_ NB326_325.out _)) jM jC) hk (fun _ h=>h.2)) (fun _ h=>h.1));replace BK325:=zh (KeepBut.blk hk (g':=gb325) (o:=.cells #[.int .i64 a0_0,.int .i64 a0_1,.string a0_2] 24 (0,0)) jm NB325_326.out (by simp));replace HB:=zh (hb);replace BK326:=zh ((show _∧_ from hi).1);clear HI326;(try clear hb);(try clear hb2);(try clear hk);(try clear hi))|((with_reducible refine yB (b:=.append) (xs:=#[.tmp 23,.tmp 31]) rfl ?_);at_builtin;refine Kd.R_append k68 (w0:=w) w.heap.size rfl (.tmp 23) (.tmp 31) 63 68 (.agg #[(.string ⟨#[]⟩),(.int .i64 0),(.int .i64 0),(.string ⟨#[]⟩)]) 48 rfl Try.underlying63 info68 rfl jC jH u5 x5_1 (⟨t333,(⟨t336,t337,t338⟩ : S24)⟩ : S68) [.string t333,.int .i64 t336,.int .i64 t337,.string t338] (fun _=>True) (fun _=>False) rfl rfl ?aP (fun _ hk=>hk.elim) ?aF ?aO ?aB ?aS ?aL ?_;(case aP=>exact k68_mkM _ _ _ (⟨t333,(⟨t336,t337,t338⟩ : S24)⟩ : S68));(case aB=>exact ju);(case aF=>exact (fun _ _=>trivial));(case aO=>exact jM);(case aS=>exact (zB ju));(case aL=>have:=LMc17.out;omega);intro v342 w21 ho hb hg hat;rw [← Ny341.out] at ho;replace BK325:=zh (yw (g:=gb325) (o:=.cells #[.int .i64 a0_0,.int .i64 a0_1,.string a0_2] 24 (0,0)) jm hg (Kd.R_ne HO_5.out BK325.out jC));replace BK326:=zh (yw (g:=gb326) (o:=.cells #[.string t339,.bool t340] 48 (0,0)) jAW hg (Kd.R_ne HO_5.out BK326.out jC));replace HB:=zh (hb);have HO343:=zh (ho);clear HO_5 ho hb hg hat)))
       go_roundg kj6
       case measure=>have:=HK1.out;have:=HJ6.out;omega
       case rel=>exact ⟨(y341),(t339),(t340),H',⟨by have:=HK1.out;have:=HJ6.out;omega⟩,⟨by (with_reducible repeat (first|apply zm|apply zn|apply zo));exact HO343.out⟩,⟨jm⟩,⟨jAW⟩,⟨ju⟩⟩
      rw [if_neg c17] at H;exact absurd H (by simp)
     replace c13:=yb.mpr c13;subst c13;rw [if_neg (show ¬ (false=true) by decide)] at H;simp only [Option.some.injEq,Prod.mk.injEq] at H;obtain ⟨rfl,rfl⟩:=H;have hnb22:=NB326_325.out;have hnc22:=NB325_326.out;obtain ⟨hcz23_0,hcz23_1,hfz23_0,hfz23_1⟩:=cB2 BK326.out
     go_wp2
     repeat (go_quiet (fail);try go_wp2)
     go_ret2
     exact ⟨_,jG,jM,ju⟩

end Go.Proofs.Ytdjnplkpahgnmaa.Q
end
section
namespace Go.Proofs.Ytdjnplkpahgnmaa.Q
open Go.RowKit Go.Proofs.YtdjnplkpahgnmaaW.PrintWords Go.Proofs.YtdjnplkpahgnmaaW.PrintLast Go.Proofs.YtdjnplkpahgnmaaW.PrintMore
attribute [local go_sem] max2_int min2_int max_two min_two max_three min_three max_four min_four max2_str min2_str str_geq str_gtr str_leq
set_option linter.unusedVariables false
set_option linter.unusedSimpArgs false

def F0z.f (a0 : Int) : Option (Bool):=if a0 ≥ 97 then (if a0≤122 then (some true) else (if a0 ≥ 65 then (if a0≤90 then (some true) else (some (a0 == 95))) else (some (a0 == 95)))) else (if a0 ≥ 65 then (if a0≤90 then (some true) else (some (a0 == 95))) else (some (a0 == 95)))
set_option maxHeartbeats 8000000 in
set_option maxRecDepth 100000 in
theorem F0z.calls (a0 : Int) (r : Bool) (w : World) (h : F0z.f a0=some r) :
  Calls Try.prog 90 #[.int .u8 a0] w fun e w' => e = .returned (.bool r)∧Drawn0 w w':=by
 have H : (if a0 ≥ 97 then (if a0≤122 then (some true) else (if a0 ≥ 65 then (if a0≤90 then (some true) else (some (a0 == 95))) else (some (a0 == 95)))) else (if a0 ≥ 65 then (if a0≤90 then (some true) else (some (a0 == 95))) else (some (a0 == 95))))=some r:=h;clear h
 by_cases c2 : a0 ≥ 97
 ·
  rw [if_pos c2] at H
  have c2b0 : decide (97≤a0)=true:=decide_eq_true c2;clear c2
  by_cases c3 : a0≤122
  ·
   rw [if_pos c3] at H
   have c3b0 : decide (a0≤122)=true:=decide_eq_true c3;clear c3;obtain rfl:=zU H
   go_enter Try.func90,Try.ntmps90
   go_wp2
   go_ret
   exact ⟨jE,jJ⟩
  rw [if_neg c3] at H;have c3b0 : decide (a0≤122)=false:=decide_eq_false c3;clear c3
  by_cases c4 : a0 ≥ 65
  ·
   rw [if_pos c4] at H
   have c4b0 : decide (65≤a0)=true:=decide_eq_true c4;clear c4
   by_cases c5 : a0≤90
   ·
    rw [if_pos c5] at H
    have c5b0 : decide (a0≤90)=true:=decide_eq_true c5;clear c5;obtain rfl:=zU H
    go_enter Try.func90,Try.ntmps90
    go_wp2
    go_ret
    exact ⟨jE,jJ⟩
   rw [if_neg c5] at H;have c5b0 : decide (a0≤90)=false:=decide_eq_false c5;clear c5;obtain rfl:=zU H
   go_enter Try.func90,Try.ntmps90
   go_wp2
   go_ret
   exact ⟨jE,jJ⟩
  rw [if_neg c4] at H;have c4b0 : decide (65≤a0)=false:=decide_eq_false c4;clear c4;obtain rfl:=zU H
  go_enter Try.func90,Try.ntmps90
  go_wp2
  go_ret
  exact ⟨jE,jJ⟩
 rw [if_neg c2] at H;have c2b0 : decide (97≤a0)=false:=decide_eq_false c2;clear c2
 by_cases c6 : a0 ≥ 65
 ·
  rw [if_pos c6] at H
  have c6b0 : decide (65≤a0)=true:=decide_eq_true c6;clear c6
  by_cases c7 : a0≤90
  ·
   rw [if_pos c7] at H
   have c7b0 : decide (a0≤90)=true:=decide_eq_true c7;clear c7;obtain rfl:=zU H
   go_enter Try.func90,Try.ntmps90
   go_wp2
   go_ret
   exact ⟨jE,jJ⟩
  rw [if_neg c7] at H;have c7b0 : decide (a0≤90)=false:=decide_eq_false c7;clear c7;obtain rfl:=zU H
  go_enter Try.func90,Try.ntmps90
  go_wp2
  go_ret
  exact ⟨jE,jJ⟩
 rw [if_neg c6] at H;have c6b0 : decide (65≤a0)=false:=decide_eq_false c6;clear c6;obtain rfl:=zU H
 go_enter Try.func90,Try.ntmps90
 go_wp2
 go_ret
 exact ⟨jE,jJ⟩


def F0y.f (a0 : Int) : Option (Bool):=if a0 ≥ 48 then (some (decide (a0≤57))) else (some false)
set_option maxHeartbeats 8000000 in
set_option maxRecDepth 100000 in
theorem F0y.calls (a0 : Int) (r : Bool) (w : World) (h : F0y.f a0=some r) :
  Calls Try.prog 91 #[.int .u8 a0] w fun e w' => e = .returned (.bool r)∧Drawn0 w w':=by
 have H : (if a0 ≥ 48 then (some (decide (a0≤57))) else (some false))=some r:=h;clear h
 by_cases c2 : a0 ≥ 48
 ·
  rw [if_pos c2] at H
  have c2b0 : decide (48≤a0)=true:=decide_eq_true c2;clear c2;obtain rfl:=zU H
  go_enter Try.func91,Try.ntmps91
  go_wp2
  go_ret
  exact ⟨jE,jJ⟩
 rw [if_neg c2] at H;have c2b0 : decide (48≤a0)=false:=decide_eq_false c2;clear c2;obtain rfl:=zU H
 go_enter Try.func91,Try.ntmps91
 go_wp2
 go_ret
 exact ⟨jE,jJ⟩


def Fx.l0 : Nat→ByteArray→Int→Int→Option (Bool)
 | 0,_,_,_=>none
 | k+1,x0,x5,x6=>if x6<x5 then (if 0≤x6 then (if x6<(x0.size : Int) then ((F0z.f (bt x0 x6)).bind fun t345=>(if t345=true then (Fx.l0 k x0 x5 (wrap64 (x6+1))) else ((F0y.f (bt x0 x6)).bind fun t346=>(if t346=true then (if x6=0 then (some false) else (Fx.l0 k x0 x5 (wrap64 (x6+1)))) else (some false))))) else (none)) else (none)) else ((F0j.f (x0.size : Int) 1 40).bind fun t344=>(some t344))
def Fx.f (k : Nat) (a0 : ByteArray) : Option (Bool):=Fx.l0 k a0 (a0.size : Int) 0
theorem Fx.mono_l : ∀ k,(∀ y0 y1 y2,LeO (Fx.l0 k y0 y1 y2) (Fx.l0 (k+1) y0 y1 y2))
 | 0=>fun _ _ _ r h=>by simp [Fx.l0] at h
 | k+1=>by
  have ih0:=Fx.mono_l k;intro y0 y1 y2;unfold Fx.l0
  repeat' first|(with_reducible first|exact ih0 _ _ _|exact zQ _|exact zN _|refine zP ?_ ?_|refine zO ?_ (fun _=>?_))|refine zP ?_ ?_|refine zO ?_ (fun _=>?_)
theorem Fx.mono : ∀ a0 k,LeO (Fx.f k a0) (Fx.f (k+1) a0):=by
 intro a0 k;have ih0:=Fx.mono_l k;unfold Fx.f
 repeat' first|(with_reducible first|exact ih0 _ _ _|exact zQ _|exact zN _|refine zP ?_ ?_|refine zO ?_ (fun _=>?_))|refine zP ?_ ?_|refine zO ?_ (fun _=>?_)
set_option maxHeartbeats 8000000 in
set_option maxRecDepth 100000 in
theorem Fx.calls (k : Nat) (a0 : ByteArray) (r : Bool) (w : World) (h : Fx.f k a0=some r) :
  Calls Try.prog 82 #[.string a0] w fun e w' => e = .returned (.bool r)∧Drawn0 w w':=by
 have H : (Fx.l0 k a0 (a0.size : Int) 0)=some r:=h;clear h;have H':=zh H;clear H
 go_enter Try.func82,Try.ntmps82
 go_wp2
 go_loopg [6] k (fun kq v6 w' => ∃ (x6_1 : Int),v6 = .int .i64 x6_1∧Aside0 (Fx.l0 kq a0 (a0.size : Int) x6_1=some r)∧Aside0 (kq≤k)∧Drawn0 w w')
 case atStart=>exact ⟨(0),jE,H',⟨ye _⟩,jJ⟩
 case round =>
  clear H';obtain ⟨x6_1,rfl,HA,HK1,⟨m1,rfl⟩⟩:=hrel
  cases gk with
  | zero=>exact absurd HA.out (by simp [Fx.l0])
  | succ k1 =>
   have H:=HA.out;clear HA;simp only [Fx.l0] at H
   by_cases c2 : x6_1<(a0.size : Int)
   ·
    rw [if_pos c2] at H
    have c2b0 : decide (x6_1<(a0.size : Int))=true:=decide_eq_true c2;clear c2
    by_cases c3 : 0≤x6_1
    ·
     rw [if_pos c3] at H
     have c3b0 : decide (0≤x6_1)=true:=decide_eq_true c3;clear c3
     by_cases c4 : x6_1<(a0.size : Int)
     ·
      rw [if_pos c4] at H
      have c4b0 : decide (x6_1<(a0.size : Int))=true:=decide_eq_true c4;clear c4;replace H:=zT.mp H;obtain ⟨t345,A60,H⟩:=H;have A6:=zh A60;clear A60
      by_cases c7 : t345=true
      ·
       subst c7
       rw [if_pos rfl] at H;have H':=zh H;clear H;have p5:=ja (0≤(x6_1 : Int));have q5:=ja (x6_1<(a0.size : Int));have hx5:=bt_at a0 x6_1
       go_wp2_with (first|((with_reducible refine zJ (f:=90) rfl ?_);refine yj (some 12) rfl rfl Try.func90 jA rfl #[.int .u8 (bt a0 x6_1)] rfl jB ?_;(with_reducible refine (F0z.calls  (bt a0 x6_1) true _ A6.out).mono ?_);rintro e w' ⟨rfl,⟨nd,rfl⟩⟩;refine ⟨_,rfl,?_⟩))
       go_roundg k1
       case measure=>have:=HK1.out;omega
       case rel=>exact ⟨(wrap64 (x6_1+1)),jE,H',⟨jN⟩,jJ⟩
      replace c7:=yb.mpr c7;subst c7;rw [if_neg (show ¬ (false=true) by decide)] at H;replace H:=zT.mp H;obtain ⟨t346,A90,H⟩:=H;have A9:=zh A90;clear A90
      by_cases c10 : t346=true
      ·
       subst c10
       rw [if_pos rfl] at H
       by_cases c11 : x6_1=0
       ·
        rw [if_pos c11] at H
        have c11b0 : (x6_1 == 0)=true:=ya.mpr c11;have c11b1 : (x6_1 != 0)=false:=zX.mpr c11;clear c11;obtain rfl:=zU H;have p5:=ja (0≤(x6_1 : Int));have q5:=ja (x6_1<(a0.size : Int));have hx5:=bt_at a0 x6_1
        go_wp2_with (first|((with_reducible refine zJ (f:=90) rfl ?_);refine yj (some 12) rfl rfl Try.func90 jA rfl #[.int .u8 (bt a0 x6_1)] rfl jB ?_;(with_reducible refine (F0z.calls  (bt a0 x6_1) false _ A6.out).mono ?_);rintro e w' ⟨rfl,⟨nd,rfl⟩⟩;refine ⟨_,rfl,?_⟩;have p8:=ja (0≤(x6_1 : Int));have q8:=ja (x6_1<(a0.size : Int));have hx8:=bt_at a0 x6_1)|(go_at_call 91;(with_reducible refine (F0y.calls  (bt a0 x6_1) true _ A9.out).mono ?_);rintro e w' ⟨rfl,⟨nd,rfl⟩⟩))
        go_ret
        exact ⟨jE,jJ⟩
       rw [if_neg c11] at H;have c11b0 : (x6_1 == 0)=false:=zY.mpr c11;have c11b1 : (x6_1 != 0)=true:=zZ.mpr c11;have H':=zh H;clear H;have p5:=ja (0≤(x6_1 : Int));have q5:=ja (x6_1<(a0.size : Int));have hx5:=bt_at a0 x6_1
       go_wp2_with (first|((with_reducible refine zJ (f:=90) rfl ?_);refine yj (some 12) rfl rfl Try.func90 jA rfl #[.int .u8 (bt a0 x6_1)] rfl jB ?_;(with_reducible refine (F0z.calls  (bt a0 x6_1) false _ A6.out).mono ?_);rintro e w' ⟨rfl,⟨nd,rfl⟩⟩;refine ⟨_,rfl,?_⟩;have p8:=ja (0≤(x6_1 : Int));have q8:=ja (x6_1<(a0.size : Int));have hx8:=bt_at a0 x6_1)|(go_at_call 91;(with_reducible refine (F0y.calls  (bt a0 x6_1) true _ A9.out).mono ?_);rintro e w' ⟨rfl,⟨nd,rfl⟩⟩))
       go_roundg k1
       case measure=>have:=HK1.out;omega
       case rel=>exact ⟨(wrap64 (x6_1+1)),jE,H',⟨jN⟩,jJ⟩
      replace c10:=yb.mpr c10;subst c10;rw [if_neg (show ¬ (false=true) by decide)] at H;obtain rfl:=zU H;have p5:=ja (0≤(x6_1 : Int));have q5:=ja (x6_1<(a0.size : Int));have hx5:=bt_at a0 x6_1
      go_wp2_with (first|((with_reducible refine zJ (f:=90) rfl ?_);refine yj (some 12) rfl rfl Try.func90 jA rfl #[.int .u8 (bt a0 x6_1)] rfl jB ?_;(with_reducible refine (F0z.calls  (bt a0 x6_1) false _ A6.out).mono ?_);rintro e w' ⟨rfl,⟨nd,rfl⟩⟩;refine ⟨_,rfl,?_⟩;have p8:=ja (0≤(x6_1 : Int));have q8:=ja (x6_1<(a0.size : Int));have hx8:=bt_at a0 x6_1)|(go_at_call 91;(with_reducible refine (F0y.calls  (bt a0 x6_1) false _ A9.out).mono ?_);rintro e w' ⟨rfl,⟨nd,rfl⟩⟩))
      go_ret
      exact ⟨jE,jJ⟩
     rw [if_neg c4] at H;exact absurd H (by simp)
    rw [if_neg c3] at H;exact absurd H (by simp)
   rw [if_neg c2] at H;have c2b0 : decide (x6_1<(a0.size : Int))=false:=decide_eq_false c2;clear c2;replace H:=zT.mp H;obtain ⟨t344,A120,H⟩:=H;have A12:=zh A120;clear A120;obtain rfl:=zU H
   go_wp2_with (first|((with_reducible refine zJ (f:=21) rfl ?_);refine yj (some 28) rfl rfl Try.func21 jA rfl #[.int .i64 (a0.size : Int),.int .i64 1,.int .i64 40] rfl jB ?_;(with_reducible refine (F0j.calls  (a0.size : Int) 1 40 t344 _ A12.out).mono ?_);rintro e w' ⟨rfl,⟨nd,rfl⟩⟩;refine ⟨_,rfl,?_⟩))
   go_ret
   exact ⟨jE,jJ⟩


def F0g.f (k : Nat) (a0 : ByteArray) : Option (Bool):=if (a0.size : Int)≤12 then ((Fx.f k a0).bind fun t347=>(some t347)) else (some false)
theorem F0g.mono : ∀ a0 k,LeO (F0g.f k a0) (F0g.f (k+1) a0):=by
 intro a0 k;unfold F0g.f
 repeat' first|(with_reducible first|exact Fx.mono _ _|exact zQ _|exact zN _|refine zP ?_ ?_|refine zO ?_ (fun _=>?_))|refine zP ?_ ?_|refine zO ?_ (fun _=>?_)
set_option maxHeartbeats 8000000 in
set_option maxRecDepth 100000 in
theorem F0g.calls (k : Nat) (a0 : ByteArray) (r : Bool) (w : World) (h : F0g.f k a0=some r) :
  Calls Try.prog 73 #[.string a0] w fun e w' => e = .returned (.bool r)∧Drawn0 w w':=by
 have H : (if (a0.size : Int)≤12 then ((Fx.f k a0).bind fun t347=>(some t347)) else (some false))=some r:=h;clear h
 by_cases c2 : (a0.size : Int)≤12
 ·
  rw [if_pos c2] at H
  have c2b0 : decide ((a0.size : Int)≤12)=true:=decide_eq_true c2;have c2b1 : decide (a0.size≤12)=true:=decide_eq_true jH;clear c2;replace H:=zT.mp H;obtain ⟨t347,A30,H⟩:=H;have A3:=zh A30;clear A30;obtain rfl:=zU H
  go_enter Try.func73,Try.ntmps73
  go_wp2_with (first|(go_at_call 82;(with_reducible refine (Fx.calls k  a0 t347 _ A3.out).mono ?_);rintro e w' ⟨rfl,⟨nd,rfl⟩⟩))
  go_ret
  exact ⟨jE,jJ⟩
 rw [if_neg c2] at H;have c2b0 : decide ((a0.size : Int)≤12)=false:=decide_eq_false c2;have c2b1 : decide (a0.size≤12)=false:=decide_eq_false jH;clear c2;obtain rfl:=zU H
 go_enter Try.func73,Try.ntmps73
 go_wp2
 go_ret
 exact ⟨jE,jJ⟩


def Fc.l0 : Nat→List (S68)→Bool→List (S24)→List (S68)→Int→Int→Option ((List (S24))×Bool)
 | 0,_,_,_,_,_,_=>none
 | k+1,x4,x5,x6,x22,x23,x24=>if x24<x23 then (if 0≤x24 then (if x24<(x22.length : Int) then (if x5=true then ((F0g.f k ((rd_T68 x22 x24).f0)).bind fun t362=>(if t362=true then (if x24=0 then (if x6.length<4398046511104 then (Fc.l0 k x4 true (x6 ++ [(⟨(rd_T68 x22 x24).f1.f0,(rd_T68 x22 x24).f1.f1,(rd_T68 x22 x24).f1.f2⟩ : S24)]) x22 x23 (wrap64 (x24+1))) else (none)) else (if 0≤(wrap64 (x24 - 1)) then (if (wrap64 (x24 - 1))<(x4.length : Int) then (if x6.length<4398046511104 then (Fc.l0 k x4 (Op.bytesLess (((rd_T68 x4 (wrap64 (x24 - 1))).f0).toList) (((rd_T68 x22 x24).f0).toList)) (x6 ++ [(⟨(rd_T68 x22 x24).f1.f0,(rd_T68 x22 x24).f1.f1,(rd_T68 x22 x24).f1.f2⟩ : S24)]) x22 x23 (wrap64 (x24+1))) else (none)) else (none)) else (none))) else (if x6.length<4398046511104 then (Fc.l0 k x4 false (x6 ++ [(⟨(rd_T68 x22 x24).f1.f0,(rd_T68 x22 x24).f1.f1,(rd_T68 x22 x24).f1.f2⟩ : S24)]) x22 x23 (wrap64 (x24+1))) else (none)))) else (if x6.length<4398046511104 then (Fc.l0 k x4 false (x6 ++ [(⟨(rd_T68 x22 x24).f1.f0,(rd_T68 x22 x24).f1.f1,(rd_T68 x22 x24).f1.f2⟩ : S24)]) x22 x23 (wrap64 (x24+1))) else (none))) else (none)) else (none)) else (some (x6,x5))
def Fc.f (k : Nat) (a0_0 : Int) (a0_1 : Int) (a0_2 : ByteArray) : Option ((List (S24))×Bool):=if a0_0=4 then ((Fa.f k a0_0 a0_1 a0_2).bind fun bt349=>(some (bt349.1,bt349.2))) else ((F4.f k a0_0 a0_1 a0_2).bind fun bt353=>(Fc.l0 k bt353.1 bt353.2 (([] : List (S24))) bt353.1 (bt353.1.length : Int) 0))
theorem Fc.mono_l : ∀ k,(∀ y0 y1 y2 y3 y4 y5,LeO (Fc.l0 k y0 y1 y2 y3 y4 y5) (Fc.l0 (k+1) y0 y1 y2 y3 y4 y5))
 | 0=>fun _ _ _ _ _ _ r h=>by simp [Fc.l0] at h
 | k+1=>by
  have ih0:=Fc.mono_l k;intro y0 y1 y2 y3 y4 y5;unfold Fc.l0
  repeat' first|(with_reducible first|exact ih0 _ _ _ _ _ _|exact Fa.mono _ _ _ _|exact F4.mono _ _ _ _|exact F0g.mono _ _|exact zQ _|exact zN _|refine zP ?_ ?_|refine zO ?_ (fun _=>?_))|refine zP ?_ ?_|refine zO ?_ (fun _=>?_)
theorem Fc.mono : ∀ a0 a1 a2 k,LeO (Fc.f k a0 a1 a2) (Fc.f (k+1) a0 a1 a2):=by
 intro a0 a1 a2 k;have ih0:=Fc.mono_l k;unfold Fc.f
 repeat' first|(with_reducible first|exact ih0 _ _ _ _ _ _|exact Fa.mono _ _ _ _|exact F4.mono _ _ _ _|exact F0g.mono _ _|exact zQ _|exact zN _|refine zP ?_ ?_|refine zO ?_ (fun _=>?_))|refine zP ?_ ?_|refine zO ?_ (fun _=>?_)
set_option maxHeartbeats 8000000 in
set_option maxRecDepth 100000 in
theorem Fc.calls (k : Nat) (a0_0 : Int) (a0_1 : Int) (a0_2 : ByteArray) (r1 : List (S24)) (r2 : Bool) (w : World) (h : Fc.f k a0_0 a0_1 a0_2=some (r1,r2)) :
  Calls Try.prog 60 #[.agg #[.int .i64 a0_0,.int .i64 a0_1,.string a0_2]] w fun e w' => ∃ v0_ : Value,e = .returned (.tuple #[v0_,.bool r2])∧Kd.R k24 24 w' w.heap.size (fun _=>True) v0_ r1∧Below w.heap.size w w':=by
 have hu24:=Try.underlying24;have hu68:=Try.underlying68;have HB:=zh (Below.refl w.heap.size w);have H : (if a0_0=4 then ((Fa.f k a0_0 a0_1 a0_2).bind fun bt349=>(some (bt349.1,bt349.2))) else ((F4.f k a0_0 a0_1 a0_2).bind fun bt353=>(Fc.l0 k bt353.1 bt353.2 (([] : List (S24))) bt353.1 (bt353.1.length : Int) 0)))=some (r1,r2):=h;clear h
 by_cases c2 : a0_0=4
 ·
  rw [if_pos c2] at H
  have c2b0 : (a0_0 == 4)=true:=ya.mpr c2;have c2b1 : (a0_0 != 4)=false:=zX.mpr c2;clear c2;replace H:=zT.mp H;obtain ⟨⟨t349,t352⟩,A30,H⟩:=H;have A3:=zh A30;clear A30;simp only [Option.some.injEq,Prod.mk.injEq] at H;obtain ⟨rfl,rfl⟩:=H
  go_enter Try.func60,Try.ntmps60
  go_wp2_with (first|((with_reducible refine zK (N:=1) rfl ?_);refine zI ?hg (N:=1) ?hd (cs:=#[.int .i64 a0_0,.int .i64 a0_1,.string a0_2]) (t:=24) ?hr ?_;(case hd=>rfl);(case hg=>rfl);(case hr=>go_simp <;> rfl);intro gb348 hg w4 hbox hb;have BK348:=zh (hbox);have hH_:=cH jD hb hg;have GW348:=zh hH_.1;have GE348:=GW348;replace HB:=zh hH_.2;clear hb hbox hg hH_;obtain ⟨hcz5_0,hcz5_1,hcz5_2,hfz5_0,hfz5_1,hfz5_2⟩:=cB3 BK348.out)|(go_at_call 33;(with_reducible refine (Fa.calls k  a0_0 a0_1 a0_2 t349 t352 _ A3.out).mono ?_);rintro e w6 ⟨v350,rfl,ho0,hb⟩;have HO351:=zh (yy (Kd.R_newB ho0 (g:=gb348) (o:=.cells #[.int .i64 a0_0,.int .i64 a0_1,.string a0_2] 24 (0,0)) jS) (zB jT));replace BK348:=zh (cD BK348.out jS hb);replace HB:=zh (zC jT hb);(try clear hb);(try clear hb2);(try clear hk);(try clear hi);(try clear ho0)))
  repeat (go_quiet (first|((with_reducible refine zK (N:=1) rfl ?_);refine zI ?hg (N:=1) ?hd (cs:=#[.int .i64 a0_0,.int .i64 a0_1,.string a0_2]) (t:=24) ?hr ?_;(case hd=>rfl);(case hg=>rfl);(case hr=>go_simp <;> rfl);intro gb348 hg w4 hbox hb;have BK348:=zh (hbox);have hH_:=cH jD hb hg;have GW348:=zh hH_.1;have GE348:=GW348;replace HB:=zh hH_.2;clear hb hbox hg hH_;obtain ⟨hcz5_0,hcz5_1,hcz5_2,hfz5_0,hfz5_1,hfz5_2⟩:=cB3 BK348.out)|(go_at_call 33;(with_reducible refine (Fa.calls k  a0_0 a0_1 a0_2 t349 t352 _ A3.out).mono ?_);rintro e w6 ⟨v350,rfl,ho0,hb⟩;have HO351:=zh (yy (Kd.R_newB ho0 (g:=gb348) (o:=.cells #[.int .i64 a0_0,.int .i64 a0_1,.string a0_2] 24 (0,0)) jS) (zB jT));replace BK348:=zh (cD BK348.out jS hb);replace HB:=zh (zC jT hb);(try clear hb);(try clear hb2);(try clear hk);(try clear hi);(try clear ho0)));try go_wp2_with (first|((with_reducible refine zK (N:=1) rfl ?_);refine zI ?hg (N:=1) ?hd (cs:=#[.int .i64 a0_0,.int .i64 a0_1,.string a0_2]) (t:=24) ?hr ?_;(case hd=>rfl);(case hg=>rfl);(case hr=>go_simp <;> rfl);intro gb348 hg w4 hbox hb;have BK348:=zh (hbox);have hH_:=cH jD hb hg;have GW348:=zh hH_.1;have GE348:=GW348;replace HB:=zh hH_.2;clear hb hbox hg hH_;obtain ⟨hcz5_0,hcz5_1,hcz5_2,hfz5_0,hfz5_1,hfz5_2⟩:=cB3 BK348.out)|(go_at_call 33;(with_reducible refine (Fa.calls k  a0_0 a0_1 a0_2 t349 t352 _ A3.out).mono ?_);rintro e w6 ⟨v350,rfl,ho0,hb⟩;have HO351:=zh (yy (Kd.R_newB ho0 (g:=gb348) (o:=.cells #[.int .i64 a0_0,.int .i64 a0_1,.string a0_2] 24 (0,0)) jS) (zB jT));replace BK348:=zh (cD BK348.out jS hb);replace HB:=zh (zC jT hb);(try clear hb);(try clear hb2);(try clear hk);(try clear hi);(try clear ho0))))
  go_ret2
  exact ⟨_,jG,by (with_reducible repeat (first|apply zm|apply zn|apply zo));exact zM HO351.out (fun _ hk=>trivial),jT⟩
 rw [if_neg c2] at H;have c2b0 : (a0_0 == 4)=false:=zY.mpr c2;have c2b1 : (a0_0 != 4)=true:=zZ.mpr c2;replace H:=zT.mp H;obtain ⟨⟨t353,t356⟩,A70,H⟩:=H;have A7:=zh A70;clear A70;obtain ⟨y357,hy357⟩ : ∃ y_ : List (S24),y_=(([] : List (S24))):=⟨_,rfl⟩;replace H : (Fc.l0 k t353 t356 y357 t353 (t353.length : Int) 0)=some (r1,r2):=by first|(rw [hy357];with_reducible exact H)|(have H2_:=(Option.bind_some _ _).symm.trans H;rw [hy357];with_reducible exact H2_)|(have H2_:=(Option.bind_some _ _).symm.trans H;with_reducible exact H2_)|with_reducible exact H|(rw [hy357];exact H)|exact H
 have Ny357:=zh hy357;clear hy357;have H':=zh H;clear H
 go_enter Try.func60,Try.ntmps60
 go_wp2_with (first|((with_reducible refine zK (N:=1) rfl ?_);refine zI ?hg (N:=1) ?hd (cs:=#[.int .i64 a0_0,.int .i64 a0_1,.string a0_2]) (t:=24) ?hr ?_;(case hd=>rfl);(case hg=>rfl);(case hr=>go_simp <;> rfl);intro gb348 hg w8 hbox hb;have BK348:=zh (hbox);have hH_:=cH jD hb hg;have GW348:=zh hH_.1;have GE348:=GW348;replace HB:=zh hH_.2;clear hb hbox hg hH_;obtain ⟨hcz9_0,hcz9_1,hcz9_2,hfz9_0,hfz9_1,hfz9_2⟩:=cB3 BK348.out)|(go_at_call 35;(with_reducible refine (F4.calls k  a0_0 a0_1 a0_2 t353 t356 _ A7.out).mono ?_);rintro e w10 ⟨v354,rfl,ho0,hb⟩;have HO355:=zh (yy ho0 (zB jT));replace BK348:=zh (cD BK348.out jS hb);replace HB:=zh (zC jT hb);(try clear hb);(try clear hb2);(try clear hk);(try clear hi);(try clear ho0))|((with_reducible refine zK (N:=21) rfl ?_);refine Kd.R_lit k24 _ 24 ?hg (N:=21) ?hd (xs:=([] : List (S24))) (inner:=[]) (ok:=fun _=>True) (okp:=fun _=>True) ?hr ?hp (fun _ hk=>hk) trivial (Below.refl _ _) (ye _) (by simp) ?_;(case hd=>rfl);(case hg=>rfl);(case hr=>go_simp <;> rfl);(case hp=>exact (Reps.none _ _));intro v358 w11 ho12 hb hg_ hnew_;clear hg_ hnew_;(first|rw [← Ny357.out] at ho12|(simp only [Int.reduceToNat] at ho12;rw [← Ny357.out] at ho12));replace HO355:=zh (yg jBI hb);have HO359:=zh (yy (Kd.R_newB ho12 (g:=gb348) (o:=.cells #[.int .i64 a0_0,.int .i64 a0_1,.string a0_2] 24 (0,0)) jS) (zB jT));replace BK348:=zh (cD BK348.out jS hb);replace HB:=zh (zC jT hb);clear hb ho12;obtain ⟨Ao13,co13,eo13⟩:=yk HO355.out;subst eo13))
 repeat (go_quiet (first|((with_reducible refine zK (N:=1) rfl ?_);refine zI ?hg (N:=1) ?hd (cs:=#[.int .i64 a0_0,.int .i64 a0_1,.string a0_2]) (t:=24) ?hr ?_;(case hd=>rfl);(case hg=>rfl);(case hr=>go_simp <;> rfl);intro gb348 hg w8 hbox hb;have BK348:=zh (hbox);have hH_:=cH jD hb hg;have GW348:=zh hH_.1;have GE348:=GW348;replace HB:=zh hH_.2;clear hb hbox hg hH_;obtain ⟨hcz9_0,hcz9_1,hcz9_2,hfz9_0,hfz9_1,hfz9_2⟩:=cB3 BK348.out)|(go_at_call 35;(with_reducible refine (F4.calls k  a0_0 a0_1 a0_2 t353 t356 _ A7.out).mono ?_);rintro e w10 ⟨v354,rfl,ho0,hb⟩;have HO355:=zh (yy ho0 (zB jT));replace BK348:=zh (cD BK348.out jS hb);replace HB:=zh (zC jT hb);(try clear hb);(try clear hb2);(try clear hk);(try clear hi);(try clear ho0))|((with_reducible refine zK (N:=21) rfl ?_);refine Kd.R_lit k24 _ 24 ?hg (N:=21) ?hd (xs:=([] : List (S24))) (inner:=[]) (ok:=fun _=>True) (okp:=fun _=>True) ?hr ?hp (fun _ hk=>hk) trivial (Below.refl _ _) (ye _) (by simp) ?_;(case hd=>rfl);(case hg=>rfl);(case hr=>go_simp <;> rfl);(case hp=>exact (Reps.none _ _));intro v358 w11 ho12 hb hg_ hnew_;clear hg_ hnew_;(first|rw [← Ny357.out] at ho12|(simp only [Int.reduceToNat] at ho12;rw [← Ny357.out] at ho12));replace HO355:=zh (yg jBI hb);have HO359:=zh (yy (Kd.R_newB ho12 (g:=gb348) (o:=.cells #[.int .i64 a0_0,.int .i64 a0_1,.string a0_2] 24 (0,0)) jS) (zB jT));replace BK348:=zh (cD BK348.out jS hb);replace HB:=zh (zC jT hb);clear hb ho12;obtain ⟨Ao13,co13,eo13⟩:=yk HO355.out;subst eo13));try go_wp2_with (first|((with_reducible refine zK (N:=1) rfl ?_);refine zI ?hg (N:=1) ?hd (cs:=#[.int .i64 a0_0,.int .i64 a0_1,.string a0_2]) (t:=24) ?hr ?_;(case hd=>rfl);(case hg=>rfl);(case hr=>go_simp <;> rfl);intro gb348 hg w8 hbox hb;have BK348:=zh (hbox);have hH_:=cH jD hb hg;have GW348:=zh hH_.1;have GE348:=GW348;replace HB:=zh hH_.2;clear hb hbox hg hH_;obtain ⟨hcz9_0,hcz9_1,hcz9_2,hfz9_0,hfz9_1,hfz9_2⟩:=cB3 BK348.out)|(go_at_call 35;(with_reducible refine (F4.calls k  a0_0 a0_1 a0_2 t353 t356 _ A7.out).mono ?_);rintro e w10 ⟨v354,rfl,ho0,hb⟩;have HO355:=zh (yy ho0 (zB jT));replace BK348:=zh (cD BK348.out jS hb);replace HB:=zh (zC jT hb);(try clear hb);(try clear hb2);(try clear hk);(try clear hi);(try clear ho0))|((with_reducible refine zK (N:=21) rfl ?_);refine Kd.R_lit k24 _ 24 ?hg (N:=21) ?hd (xs:=([] : List (S24))) (inner:=[]) (ok:=fun _=>True) (okp:=fun _=>True) ?hr ?hp (fun _ hk=>hk) trivial (Below.refl _ _) (ye _) (by simp) ?_;(case hd=>rfl);(case hg=>rfl);(case hr=>go_simp <;> rfl);(case hp=>exact (Reps.none _ _));intro v358 w11 ho12 hb hg_ hnew_;clear hg_ hnew_;(first|rw [← Ny357.out] at ho12|(simp only [Int.reduceToNat] at ho12;rw [← Ny357.out] at ho12));replace HO355:=zh (yg jBI hb);have HO359:=zh (yy (Kd.R_newB ho12 (g:=gb348) (o:=.cells #[.int .i64 a0_0,.int .i64 a0_1,.string a0_2] 24 (0,0)) jS) (zB jT));replace BK348:=zh (cD BK348.out jS hb);replace HB:=zh (zC jT hb);clear hb ho12;obtain ⟨Ao13,co13,eo13⟩:=yk HO355.out;subst eo13)))
 go_loopg [5,6,24] k (fun kq v5 v6 v24 w' => ∃ (x5_1 : Bool) (x6_1 : List (S24)) (x24_1 : Int),v5 = .bool x5_1∧v24 = .int .i64 x24_1∧Aside0 (Fc.l0 kq t353 x5_1 x6_1 t353 (t353.length : Int) x24_1=some (r1,r2))∧Aside0 (kq≤k)∧Aside0 (Kd.R k68 68 w' w.heap.size (fun _=>True) (.slice Ao13 t353.length co13) t353)∧Aside0 (Kd.R k24 24 w' w.heap.size (fun k_=>k_≠gb348) v6 x6_1)∧Aside0 (Kd.R k68 68 w' w.heap.size (fun _=>True) (.slice Ao13 t353.length co13) t353)∧Aside0 (w'.heap[gb348]? = some (.cells #[.int .i64 a0_0,.int .i64 a0_1,.string a0_2] 24 (0,0)))∧Aside0 (Below w.heap.size w w'))
 case atStart=>exact ⟨(t356),(y357),(0),jE,jE,H',⟨ye _⟩,⟨jBI⟩,⟨by (with_reducible repeat (first|apply zm|apply zn|apply zo));exact zM HO359.out (fun _ hk=>hk.2)⟩,⟨jBI⟩,⟨jS⟩,⟨jT⟩⟩
 case round =>
  clear H'
  try clear c2 c2b0 c2b1
  try clear p2
  try clear c6
  try clear hcz5_0 hcz5_1 hcz5_2
  try clear hcz9_0 hcz9_1 hcz9_2
  try clear hfz5_0 hfz5_1 hfz5_2
  try clear hfz9_0 hfz9_1 hfz9_2
  obtain ⟨x5_1,x6_1,x24_1,rfl,rfl,HA,HK1,HO_4,HO_6,HO_22,BK348,HB⟩:=hrel
  cases gk with
  | zero=>exact absurd HA.out (by simp [Fc.l0])
  | succ k1 =>
   have H:=HA.out;clear HA;simp only [Fc.l0] at H
   by_cases c14 : x24_1<(t353.length : Int)
   ·
    rw [if_pos c14] at H
    have c14b0 : decide (x24_1<(t353.length : Int))=true:=decide_eq_true c14;clear c14
    by_cases c15 : 0≤x24_1
    ·
     rw [if_pos c15] at H
     have c15b0 : decide (0≤x24_1)=true:=decide_eq_true c15;clear c15
     by_cases c16 : x24_1<(t353.length : Int)
     ·
      rw [if_pos c16] at H
      have c16b0 : decide (x24_1<(t353.length : Int))=true:=decide_eq_true c16;clear c16
      by_cases c17 : x5_1=true
      ·
       subst c17
       rw [if_pos rfl] at H;replace H:=zT.mp H;obtain ⟨t362,A180,H⟩:=H;have A18:=zh A180;clear A180
       by_cases c19 : t362=true
       ·
        subst c19
        rw [if_pos rfl] at H
        by_cases c20 : x24_1=0
        ·
         rw [if_pos c20] at H
         have c20b0 : (x24_1 == 0)=true:=ya.mpr c20;have c20b1 : (x24_1 != 0)=false:=zX.mpr c20;clear c20
         by_cases c21 : x6_1.length<4398046511104
         ·
          rw [if_pos c21] at H
          have LMc21:=zh c21;clear c21;obtain ⟨y363,hy363⟩ : ∃ y_ : List (S24),y_=(x6_1 ++ [(⟨(rd_T68 t353 x24_1).f1.f0,(rd_T68 t353 x24_1).f1.f1,(rd_T68 t353 x24_1).f1.f2⟩ : S24)]):=⟨_,rfl⟩;replace H : (Fc.l0 k1 t353 true y363 t353 (t353.length : Int) (wrap64 (x24_1+1)))=some (r1,r2):=by first|(rw [hy363];with_reducible exact H)|(have H2_:=(Option.bind_some _ _).symm.trans H;rw [hy363];with_reducible exact H2_)|(have H2_:=(Option.bind_some _ _).symm.trans H;with_reducible exact H2_)|with_reducible exact H|(rw [hy363];exact H)|exact H
          have Ny363:=zh hy363;clear hy363;have H':=zh H;clear H;have p360 : 0≤(x24_1 : Int):=zy jF;have q360 : x24_1<(t353.length : Int):=zy jF;obtain ⟨ad360,e360,hx360_0,hx360_1,hx360_2,hx360_3⟩:=at_T68 (yh HO_22.out).2.2 x24_1 p360 q360
          cases e360
          replace p360:=eq_true p360;replace q360:=eq_true q360
          go_wp2_with (first|((with_reducible refine zK (N:=8) rfl ?_);refine zI ?hg (N:=8) ?hd (cs:=#[.string (⟨#[]⟩ : ByteArray),.int .i64 0,.int .i64 0,.string (⟨#[]⟩ : ByteArray)]) (t:=68) ?hr ?_;(case hd=>rfl);(case hg=>rfl);(case hr=>go_simp <;> rfl);intro gb361 hg w22 hbox hb;replace HO_4:=zh (yg (Kd.R_elderB jZ gb361 (Nat.le_of_eq hg.symm)) hb);replace HO_6:=zh (yg js hb);replace HO_22:=zh (yg (Kd.R_elderB jAI gb361 (Nat.le_of_eq hg.symm)) hb);have BK361:=zh (hbox);have hH_:=cH jT hb hg;have GW361:=zh hH_.1;have GE361:=GW361;replace HB:=zh hH_.2;have NB348_361:=zh ((jAJ : gb348≠gb361));have NB361_348:=zh NB348_361.out.symm;replace BK348:=zh (cD BK348.out jS hb);clear hb hbox hg hH_;have hnb23:=NB361_348.out;have hnc23:=NB348_361.out;obtain ⟨hcz24_0,hcz24_1,hcz24_2,hcz24_3,hfz24_0,hfz24_1,hfz24_2,hfz24_3⟩:=cB4 BK361.out)|(go_at_call 73;(with_reducible refine (F0g.calls k1  ((rd_T68 t353 x24_1).f0) true _ A18.out).mono ?_);rintro e w' ⟨rfl,⟨nd,rfl⟩⟩;(try first|exact ⟨rfl,_,World.drewN_drewN _ _ _⟩|exact ⟨rfl,_,Eq.trans (World.drewN_drewN _ _ _) (congrArg (World.drewN _) (Nat.add_assoc _ _ _))⟩))|((with_reducible refine yB (b:=.append) (xs:=#[.tmp 50,.tmp 53]) rfl ?_);at_builtin;refine Kd.R_append k24 (w0:=w) w.heap.size rfl (.tmp 50) (.tmp 53) 55 24 (.agg #[(.int .i64 0),(.int .i64 0),(.string ⟨#[]⟩)]) 32 rfl Try.underlying55 info24 rfl jC jH u6 x6_1 (⟨(rd_T68 t353 x24_1).f1.f0,(rd_T68 t353 x24_1).f1.f1,(rd_T68 t353 x24_1).f1.f2⟩ : S24) [.int .i64 ((rd_T68 t353 x24_1).f1.f0),.int .i64 ((rd_T68 t353 x24_1).f1.f1),.string ((rd_T68 t353 x24_1).f1.f2)] (fun k_=>k_≠gb348) (fun _=>False) rfl jAB ?aP (fun _ hk=>hk.elim) ?aF ?aO ?aB ?aS ?aL ?_;(case aP=>exact k24_mkM _ _ _ (⟨(rd_T68 t353 x24_1).f1.f0,(rd_T68 t353 x24_1).f1.f1,(rd_T68 t353 x24_1).f1.f2⟩ : S24));(case aB=>exact jX);(case aF=>exact (fun k_ hk=>Kd.freshB (g:=gb348) (o:=.cells #[.int .i64 a0_0,.int .i64 a0_1,.string a0_2] 24 (0,0)) jh k_ hk));(case aO=>exact jAK);(case aS=>exact (zB jX));(case aL=>have:=LMc21.out;omega);intro v364 w25 ho hb hg hat;rw [← Ny363.out] at ho;replace HO_4:=zh (Kd.R_over' jAL (Kd.R_typed ji) jC hg);replace HO_22:=zh (Kd.R_over' jAM (Kd.R_typed ji) jC hg);replace BK348:=zh (yw (g:=gb348) (o:=.cells #[.int .i64 a0_0,.int .i64 a0_1,.string a0_2] 24 (0,0)) jh hg (yv HO_6.out (fun _ hk=>hk)));replace BK361:=zh (yw (g:=gb361) (o:=.cells #[.string ((rd_T68 t353 x24_1).f0),.int .i64 ((rd_T68 t353 x24_1).f1.f0),.int .i64 ((rd_T68 t353 x24_1).f1.f1),.string ((rd_T68 t353 x24_1).f1.f2)] 68 (0,0)) jAN hg (Kd.R_ne HO_6.out BK361.out jC));replace HB:=zh (hb);have HO365:=zh (ho);clear HO_6 ho hb hg hat))
          repeat (go_quiet (first|((with_reducible refine zK (N:=8) rfl ?_);refine zI ?hg (N:=8) ?hd (cs:=#[.string (⟨#[]⟩ : ByteArray),.int .i64 0,.int .i64 0,.string (⟨#[]⟩ : ByteArray)]) (t:=68) ?hr ?_;(case hd=>rfl);(case hg=>rfl);(case hr=>go_simp <;> rfl);intro gb361 hg w22 hbox hb;replace HO_4:=zh (yg (Kd.R_elderB jZ gb361 (Nat.le_of_eq hg.symm)) hb);replace HO_6:=zh (yg js hb);replace HO_22:=zh (yg (Kd.R_elderB jAI gb361 (Nat.le_of_eq hg.symm)) hb);have BK361:=zh (hbox);have hH_:=cH jT hb hg;have GW361:=zh hH_.1;have GE361:=GW361;replace HB:=zh hH_.2;have NB348_361:=zh ((jAJ : gb348≠gb361));have NB361_348:=zh NB348_361.out.symm;replace BK348:=zh (cD BK348.out jS hb);clear hb hbox hg hH_;have hnb23:=NB361_348.out;have hnc23:=NB348_361.out;obtain ⟨hcz24_0,hcz24_1,hcz24_2,hcz24_3,hfz24_0,hfz24_1,hfz24_2,hfz24_3⟩:=cB4 BK361.out)|(go_at_call 73;(with_reducible refine (F0g.calls k1  ((rd_T68 t353 x24_1).f0) true _ A18.out).mono ?_);rintro e w' ⟨rfl,⟨nd,rfl⟩⟩;(try first|exact ⟨rfl,_,World.drewN_drewN _ _ _⟩|exact ⟨rfl,_,Eq.trans (World.drewN_drewN _ _ _) (congrArg (World.drewN _) (Nat.add_assoc _ _ _))⟩))|((with_reducible refine yB (b:=.append) (xs:=#[.tmp 50,.tmp 53]) rfl ?_);at_builtin;refine Kd.R_append k24 (w0:=w) w.heap.size rfl (.tmp 50) (.tmp 53) 55 24 (.agg #[(.int .i64 0),(.int .i64 0),(.string ⟨#[]⟩)]) 32 rfl Try.underlying55 info24 rfl jC jH u6 x6_1 (⟨(rd_T68 t353 x24_1).f1.f0,(rd_T68 t353 x24_1).f1.f1,(rd_T68 t353 x24_1).f1.f2⟩ : S24) [.int .i64 ((rd_T68 t353 x24_1).f1.f0),.int .i64 ((rd_T68 t353 x24_1).f1.f1),.string ((rd_T68 t353 x24_1).f1.f2)] (fun k_=>k_≠gb348) (fun _=>False) rfl jAB ?aP (fun _ hk=>hk.elim) ?aF ?aO ?aB ?aS ?aL ?_;(case aP=>exact k24_mkM _ _ _ (⟨(rd_T68 t353 x24_1).f1.f0,(rd_T68 t353 x24_1).f1.f1,(rd_T68 t353 x24_1).f1.f2⟩ : S24));(case aB=>exact jX);(case aF=>exact (fun k_ hk=>Kd.freshB (g:=gb348) (o:=.cells #[.int .i64 a0_0,.int .i64 a0_1,.string a0_2] 24 (0,0)) jh k_ hk));(case aO=>exact jAK);(case aS=>exact (zB jX));(case aL=>have:=LMc21.out;omega);intro v364 w25 ho hb hg hat;rw [← Ny363.out] at ho;replace HO_4:=zh (Kd.R_over' jAL (Kd.R_typed ji) jC hg);replace HO_22:=zh (Kd.R_over' jAM (Kd.R_typed ji) jC hg);replace BK348:=zh (yw (g:=gb348) (o:=.cells #[.int .i64 a0_0,.int .i64 a0_1,.string a0_2] 24 (0,0)) jh hg (yv HO_6.out (fun _ hk=>hk)));replace BK361:=zh (yw (g:=gb361) (o:=.cells #[.string ((rd_T68 t353 x24_1).f0),.int .i64 ((rd_T68 t353 x24_1).f1.f0),.int .i64 ((rd_T68 t353 x24_1).f1.f1),.string ((rd_T68 t353 x24_1).f1.f2)] 68 (0,0)) jAN hg (Kd.R_ne HO_6.out BK361.out jC));replace HB:=zh (hb);have HO365:=zh (ho);clear HO_6 ho hb hg hat));try go_wp2_with (first|((with_reducible refine zK (N:=8) rfl ?_);refine zI ?hg (N:=8) ?hd (cs:=#[.string (⟨#[]⟩ : ByteArray),.int .i64 0,.int .i64 0,.string (⟨#[]⟩ : ByteArray)]) (t:=68) ?hr ?_;(case hd=>rfl);(case hg=>rfl);(case hr=>go_simp <;> rfl);intro gb361 hg w22 hbox hb;replace HO_4:=zh (yg (Kd.R_elderB jZ gb361 (Nat.le_of_eq hg.symm)) hb);replace HO_6:=zh (yg js hb);replace HO_22:=zh (yg (Kd.R_elderB jAI gb361 (Nat.le_of_eq hg.symm)) hb);have BK361:=zh (hbox);have hH_:=cH jT hb hg;have GW361:=zh hH_.1;have GE361:=GW361;replace HB:=zh hH_.2;have NB348_361:=zh ((jAJ : gb348≠gb361));have NB361_348:=zh NB348_361.out.symm;replace BK348:=zh (cD BK348.out jS hb);clear hb hbox hg hH_;have hnb23:=NB361_348.out;have hnc23:=NB348_361.out;obtain ⟨hcz24_0,hcz24_1,hcz24_2,hcz24_3,hfz24_0,hfz24_1,hfz24_2,hfz24_3⟩:=cB4 BK361.out)|(go_at_call 73;(with_reducible refine (F0g.calls k1  ((rd_T68 t353 x24_1).f0) true _ A18.out).mono ?_);rintro e w' ⟨rfl,⟨nd,rfl⟩⟩;(try first|exact ⟨rfl,_,World.drewN_drewN _ _ _⟩|exact ⟨rfl,_,Eq.trans (World.drewN_drewN _ _ _) (congrArg (World.drewN _) (Nat.add_assoc _ _ _))⟩))|((with_reducible refine yB (b:=.append) (xs:=#[.tmp 50,.tmp 53]) rfl ?_);at_builtin;refine Kd.R_append k24 (w0:=w) w.heap.size rfl (.tmp 50) (.tmp 53) 55 24 (.agg #[(.int .i64 0),(.int .i64 0),(.string ⟨#[]⟩)]) 32 rfl Try.underlying55 info24 rfl jC jH u6 x6_1 (⟨(rd_T68 t353 x24_1).f1.f0,(rd_T68 t353 x24_1).f1.f1,(rd_T68 t353 x24_1).f1.f2⟩ : S24) [.int .i64 ((rd_T68 t353 x24_1).f1.f0),.int .i64 ((rd_T68 t353 x24_1).f1.f1),.string ((rd_T68 t353 x24_1).f1.f2)] (fun k_=>k_≠gb348) (fun _=>False) rfl jAB ?aP (fun _ hk=>hk.elim) ?aF ?aO ?aB ?aS ?aL ?_;(case aP=>exact k24_mkM _ _ _ (⟨(rd_T68 t353 x24_1).f1.f0,(rd_T68 t353 x24_1).f1.f1,(rd_T68 t353 x24_1).f1.f2⟩ : S24));(case aB=>exact jX);(case aF=>exact (fun k_ hk=>Kd.freshB (g:=gb348) (o:=.cells #[.int .i64 a0_0,.int .i64 a0_1,.string a0_2] 24 (0,0)) jh k_ hk));(case aO=>exact jAK);(case aS=>exact (zB jX));(case aL=>have:=LMc21.out;omega);intro v364 w25 ho hb hg hat;rw [← Ny363.out] at ho;replace HO_4:=zh (Kd.R_over' jAL (Kd.R_typed ji) jC hg);replace HO_22:=zh (Kd.R_over' jAM (Kd.R_typed ji) jC hg);replace BK348:=zh (yw (g:=gb348) (o:=.cells #[.int .i64 a0_0,.int .i64 a0_1,.string a0_2] 24 (0,0)) jh hg (yv HO_6.out (fun _ hk=>hk)));replace BK361:=zh (yw (g:=gb361) (o:=.cells #[.string ((rd_T68 t353 x24_1).f0),.int .i64 ((rd_T68 t353 x24_1).f1.f0),.int .i64 ((rd_T68 t353 x24_1).f1.f1),.string ((rd_T68 t353 x24_1).f1.f2)] 68 (0,0)) jAN hg (Kd.R_ne HO_6.out BK361.out jC));replace HB:=zh (hb);have HO365:=zh (ho);clear HO_6 ho hb hg hat)))
          go_roundg k1
          case measure=>have:=HK1.out;omega
          case rel=>exact ⟨(true),(y363),(wrap64 (x24_1+1)),jE,jE,H',⟨jN⟩,⟨jBY⟩,⟨by (with_reducible repeat (first|apply zm|apply zn|apply zo));exact HO365.out⟩,⟨jBZ⟩,⟨jS⟩,⟨jX⟩⟩
         rw [if_neg c21] at H;exact absurd H (by simp)
        rw [if_neg c20] at H;have c20b0 : (x24_1 == 0)=false:=zY.mpr c20;have c20b1 : (x24_1 != 0)=true:=zZ.mpr c20;obtain ⟨ji26,hji26⟩ : ∃ j_ : Int,(wrap64 (x24_1 - 1))=j_:=⟨_,rfl⟩;replace H : (if 0≤(ji26) then (if (ji26)<(t353.length : Int) then (if x6_1.length<4398046511104 then (Fc.l0 k1 t353 (Op.bytesLess (((rd_T68 t353 (ji26)).f0).toList) (((rd_T68 t353 x24_1).f0).toList)) (x6_1 ++ [(⟨(rd_T68 t353 x24_1).f1.f0,(rd_T68 t353 x24_1).f1.f1,(rd_T68 t353 x24_1).f1.f2⟩ : S24)]) t353 (t353.length : Int) (wrap64 (x24_1+1))) else (none)) else (none)) else (none))=some (r1,r2):=by first|(rw [hji26] at H;exact H)|(simp only [hji26] at H ⊢;exact H)
        (try rw [hji26] at A18);have hji26w : (IntKind.i64.wrap (x24_1 - 1))=ji26:=(zG _).trans hji26
        by_cases c27 : 0≤(ji26)
        ·
         rw [if_pos c27] at H
         have c27b0 : decide (0≤(ji26))=true:=decide_eq_true c27;clear c27
         by_cases c28 : (ji26)<(t353.length : Int)
         ·
          rw [if_pos c28] at H
          have c28b0 : decide ((ji26)<(t353.length : Int))=true:=decide_eq_true c28;clear c28
          by_cases c29 : x6_1.length<4398046511104
          ·
           rw [if_pos c29] at H
           have LMc29:=zh c29;clear c29;obtain ⟨y367,hy367⟩ : ∃ y_ : List (S24),y_=(x6_1 ++ [(⟨(rd_T68 t353 x24_1).f1.f0,(rd_T68 t353 x24_1).f1.f1,(rd_T68 t353 x24_1).f1.f2⟩ : S24)]):=⟨_,rfl⟩;replace H : (Fc.l0 k1 t353 (Op.bytesLess (((rd_T68 t353 (ji26)).f0).toList) (((rd_T68 t353 x24_1).f0).toList)) y367 t353 (t353.length : Int) (wrap64 (x24_1+1)))=some (r1,r2):=by first|(rw [hy367];with_reducible exact H)|(have H2_:=(Option.bind_some _ _).symm.trans H;rw [hy367];with_reducible exact H2_)|(have H2_:=(Option.bind_some _ _).symm.trans H;with_reducible exact H2_)|with_reducible exact H|(rw [hy367];exact H)|exact H
           have Ny367:=zh hy367;clear hy367;have H':=zh H;clear H;have p360 : 0≤(x24_1 : Int):=zy jF;have q360 : x24_1<(t353.length : Int):=zy jF;obtain ⟨ad360,e360,hx360_0,hx360_1,hx360_2,hx360_3⟩:=at_T68 (yh HO_22.out).2.2 x24_1 p360 q360
           cases e360
           replace p360:=eq_true p360;replace q360:=eq_true q360
           go_wp2_with (first|((with_reducible refine zK (N:=8) rfl ?_);refine zI ?hg (N:=8) ?hd (cs:=#[.string (⟨#[]⟩ : ByteArray),.int .i64 0,.int .i64 0,.string (⟨#[]⟩ : ByteArray)]) (t:=68) ?hr ?_;(case hd=>rfl);(case hg=>rfl);(case hr=>go_simp <;> rfl);intro gb361 hg w30 hbox hb;replace HO_4:=zh (yg (Kd.R_elderB jZ gb361 (Nat.le_of_eq hg.symm)) hb);replace HO_6:=zh (yg js hb);replace HO_22:=zh (yg (Kd.R_elderB jAI gb361 (Nat.le_of_eq hg.symm)) hb);have BK361:=zh (hbox);have hH_:=cH jT hb hg;have GW361:=zh hH_.1;have GE361:=GW361;replace HB:=zh hH_.2;have NB348_361:=zh ((jAJ : gb348≠gb361));have NB361_348:=zh NB348_361.out.symm;replace BK348:=zh (cD BK348.out jS hb);clear hb hbox hg hH_;have hnb31:=NB361_348.out;have hnc31:=NB348_361.out;obtain ⟨hcz32_0,hcz32_1,hcz32_2,hcz32_3,hfz32_0,hfz32_1,hfz32_2,hfz32_3⟩:=cB4 BK361.out;have p366 : 0≤((ji26) : Int):=zy jF;have q366 : (ji26)<(t353.length : Int):=zy jF;obtain ⟨ad366,e366,hx366_0,hx366_1,hx366_2,hx366_3⟩:=at_T68 (yh HO_4.out).2.2 (ji26) p366 q366;obtain rfl : ad360=ad366:=(by injection e366);have hn366_0 : ad360.block≠gb361:=Kd.own_blk (yv HO_4.out (fun _ hk=>hk.2));have hn366_1 : ad360.block≠gb361:=Kd.own_blk (yv HO_4.out (fun _ hk=>hk.2));have hn366_2 : ad360.block≠gb361:=Kd.own_blk (yv HO_4.out (fun _ hk=>hk.2));have hn366_3 : ad360.block≠gb361:=Kd.own_blk (yv HO_4.out (fun _ hk=>hk.2));replace hx366_0:=(zR (p:=⟨gb361,0,none⟩) jAO (.string ((rd_T68 t353 x24_1).f0))).trans hx366_0;replace hx366_1:=(zR (p:=⟨gb361,0,none⟩) jAO (.string ((rd_T68 t353 x24_1).f0))).trans hx366_1;replace hx366_2:=(zR (p:=⟨gb361,0,none⟩) jAO (.string ((rd_T68 t353 x24_1).f0))).trans hx366_2;replace hx366_3:=(zR (p:=⟨gb361,0,none⟩) jAO (.string ((rd_T68 t353 x24_1).f0))).trans hx366_3;replace hx366_0:=(zR (p:=⟨gb361,1,none⟩) jAP (.int .i64 ((rd_T68 t353 x24_1).f1.f0))).trans hx366_0;replace hx366_1:=(zR (p:=⟨gb361,1,none⟩) jAP (.int .i64 ((rd_T68 t353 x24_1).f1.f0))).trans hx366_1;replace hx366_2:=(zR (p:=⟨gb361,1,none⟩) jAP (.int .i64 ((rd_T68 t353 x24_1).f1.f0))).trans hx366_2;replace hx366_3:=(zR (p:=⟨gb361,1,none⟩) jAP (.int .i64 ((rd_T68 t353 x24_1).f1.f0))).trans hx366_3;replace hx366_0:=(zR (p:=⟨gb361,2,none⟩) jAQ (.int .i64 ((rd_T68 t353 x24_1).f1.f1))).trans hx366_0;replace hx366_1:=(zR (p:=⟨gb361,2,none⟩) jAQ (.int .i64 ((rd_T68 t353 x24_1).f1.f1))).trans hx366_1;replace hx366_2:=(zR (p:=⟨gb361,2,none⟩) jAQ (.int .i64 ((rd_T68 t353 x24_1).f1.f1))).trans hx366_2;replace hx366_3:=(zR (p:=⟨gb361,2,none⟩) jAQ (.int .i64 ((rd_T68 t353 x24_1).f1.f1))).trans hx366_3;replace hx366_0:=(zR (p:=⟨gb361,3,none⟩) jAR (.string ((rd_T68 t353 x24_1).f1.f2))).trans hx366_0;replace hx366_1:=(zR (p:=⟨gb361,3,none⟩) jAR (.string ((rd_T68 t353 x24_1).f1.f2))).trans hx366_1;replace hx366_2:=(zR (p:=⟨gb361,3,none⟩) jAR (.string ((rd_T68 t353 x24_1).f1.f2))).trans hx366_2;replace hx366_3:=(zR (p:=⟨gb361,3,none⟩) jAR (.string ((rd_T68 t353 x24_1).f1.f2))).trans hx366_3;(try have hy366_0:=fun (n_ : Nat)=>(show ((((((w30.drewN n_).setCell ⟨gb361,0,none⟩ (.string ((rd_T68 t353 x24_1).f0))).setCell ⟨gb361,1,none⟩ (.int .i64 ((rd_T68 t353 x24_1).f1.f0))).setCell ⟨gb361,2,none⟩ (.int .i64 ((rd_T68 t353 x24_1).f1.f1))).setCell ⟨gb361,3,none⟩ (.string ((rd_T68 t353 x24_1).f1.f2)))).cell? _=some _ from hx366_0));(try have hy366_1:=fun (n_ : Nat)=>(show ((((((w30.drewN n_).setCell ⟨gb361,0,none⟩ (.string ((rd_T68 t353 x24_1).f0))).setCell ⟨gb361,1,none⟩ (.int .i64 ((rd_T68 t353 x24_1).f1.f0))).setCell ⟨gb361,2,none⟩ (.int .i64 ((rd_T68 t353 x24_1).f1.f1))).setCell ⟨gb361,3,none⟩ (.string ((rd_T68 t353 x24_1).f1.f2)))).cell? _=some _ from hx366_1));(try have hy366_2:=fun (n_ : Nat)=>(show ((((((w30.drewN n_).setCell ⟨gb361,0,none⟩ (.string ((rd_T68 t353 x24_1).f0))).setCell ⟨gb361,1,none⟩ (.int .i64 ((rd_T68 t353 x24_1).f1.f0))).setCell ⟨gb361,2,none⟩ (.int .i64 ((rd_T68 t353 x24_1).f1.f1))).setCell ⟨gb361,3,none⟩ (.string ((rd_T68 t353 x24_1).f1.f2)))).cell? _=some _ from hx366_2));(try have hy366_3:=fun (n_ : Nat)=>(show ((((((w30.drewN n_).setCell ⟨gb361,0,none⟩ (.string ((rd_T68 t353 x24_1).f0))).setCell ⟨gb361,1,none⟩ (.int .i64 ((rd_T68 t353 x24_1).f1.f0))).setCell ⟨gb361,2,none⟩ (.int .i64 ((rd_T68 t353 x24_1).f1.f1))).setCell ⟨gb361,3,none⟩ (.string ((rd_T68 t353 x24_1).f1.f2)))).cell? _=some _ from hx366_3));clear hn366_0 hn366_1 hn366_2 hn366_3;replace p366:=eq_true p366;replace q366:=eq_true q366)|(go_at_call 73;(with_reducible refine (F0g.calls k1  ((rd_T68 t353 x24_1).f0) true _ A18.out).mono ?_);rintro e w' ⟨rfl,⟨nd,rfl⟩⟩;(try first|exact ⟨rfl,_,World.drewN_drewN _ _ _⟩|exact ⟨rfl,_,Eq.trans (World.drewN_drewN _ _ _) (congrArg (World.drewN _) (Nat.add_assoc _ _ _))⟩))|((with_reducible refine yB (b:=.append) (xs:=#[.tmp 50,.tmp 53]) rfl ?_);at_builtin;refine Kd.R_append k24 (w0:=w) w.heap.size rfl (.tmp 50) (.tmp 53) 55 24 (.agg #[(.int .i64 0),(.int .i64 0),(.string ⟨#[]⟩)]) 32 rfl Try.underlying55 info24 rfl jC jH u6 x6_1 (⟨(rd_T68 t353 x24_1).f1.f0,(rd_T68 t353 x24_1).f1.f1,(rd_T68 t353 x24_1).f1.f2⟩ : S24) [.int .i64 ((rd_T68 t353 x24_1).f1.f0),.int .i64 ((rd_T68 t353 x24_1).f1.f1),.string ((rd_T68 t353 x24_1).f1.f2)] (fun k_=>k_≠gb348) (fun _=>False) rfl jAB ?aP (fun _ hk=>hk.elim) ?aF ?aO ?aB ?aS ?aL ?_;(case aP=>exact k24_mkM _ _ _ (⟨(rd_T68 t353 x24_1).f1.f0,(rd_T68 t353 x24_1).f1.f1,(rd_T68 t353 x24_1).f1.f2⟩ : S24));(case aB=>exact jX);(case aF=>exact (fun k_ hk=>Kd.freshB (g:=gb348) (o:=.cells #[.int .i64 a0_0,.int .i64 a0_1,.string a0_2] 24 (0,0)) jh k_ hk));(case aO=>exact jAK);(case aS=>exact (zB jX));(case aL=>have:=LMc29.out;omega);intro v368 w33 ho hb hg hat;rw [← Ny367.out] at ho;replace HO_4:=zh (Kd.R_over' jAL (Kd.R_typed ji) jC hg);replace HO_22:=zh (Kd.R_over' jAM (Kd.R_typed ji) jC hg);replace BK348:=zh (yw (g:=gb348) (o:=.cells #[.int .i64 a0_0,.int .i64 a0_1,.string a0_2] 24 (0,0)) jh hg (yv HO_6.out (fun _ hk=>hk)));replace BK361:=zh (yw (g:=gb361) (o:=.cells #[.string ((rd_T68 t353 x24_1).f0),.int .i64 ((rd_T68 t353 x24_1).f1.f0),.int .i64 ((rd_T68 t353 x24_1).f1.f1),.string ((rd_T68 t353 x24_1).f1.f2)] 68 (0,0)) jAN hg (Kd.R_ne HO_6.out BK361.out jC));replace HB:=zh (hb);have HO369:=zh (ho);clear HO_6 ho hb hg hat))
           repeat (go_quiet (first|((with_reducible refine zK (N:=8) rfl ?_);refine zI ?hg (N:=8) ?hd (cs:=#[.string (⟨#[]⟩ : ByteArray),.int .i64 0,.int .i64 0,.string (⟨#[]⟩ : ByteArray)]) (t:=68) ?hr ?_;(case hd=>rfl);(case hg=>rfl);(case hr=>go_simp <;> rfl);intro gb361 hg w30 hbox hb;replace HO_4:=zh (yg (Kd.R_elderB jZ gb361 (Nat.le_of_eq hg.symm)) hb);replace HO_6:=zh (yg js hb);replace HO_22:=zh (yg (Kd.R_elderB jAI gb361 (Nat.le_of_eq hg.symm)) hb);have BK361:=zh (hbox);have hH_:=cH jT hb hg;have GW361:=zh hH_.1;have GE361:=GW361;replace HB:=zh hH_.2;have NB348_361:=zh ((jAJ : gb348≠gb361));have NB361_348:=zh NB348_361.out.symm;replace BK348:=zh (cD BK348.out jS hb);clear hb hbox hg hH_;have hnb31:=NB361_348.out;have hnc31:=NB348_361.out;obtain ⟨hcz32_0,hcz32_1,hcz32_2,hcz32_3,hfz32_0,hfz32_1,hfz32_2,hfz32_3⟩:=cB4 BK361.out;have p366 : 0≤((ji26) : Int):=zy jF;have q366 : (ji26)<(t353.length : Int):=zy jF;obtain ⟨ad366,e366,hx366_0,hx366_1,hx366_2,hx366_3⟩:=at_T68 (yh HO_4.out).2.2 (ji26) p366 q366;obtain rfl : ad360=ad366:=(by injection e366);have hn366_0 : ad360.block≠gb361:=Kd.own_blk (yv HO_4.out (fun _ hk=>hk.2));have hn366_1 : ad360.block≠gb361:=Kd.own_blk (yv HO_4.out (fun _ hk=>hk.2));have hn366_2 : ad360.block≠gb361:=Kd.own_blk (yv HO_4.out (fun _ hk=>hk.2));have hn366_3 : ad360.block≠gb361:=Kd.own_blk (yv HO_4.out (fun _ hk=>hk.2));replace hx366_0:=(zR (p:=⟨gb361,0,none⟩) jAO (.string ((rd_T68 t353 x24_1).f0))).trans hx366_0;replace hx366_1:=(zR (p:=⟨gb361,0,none⟩) jAO (.string ((rd_T68 t353 x24_1).f0))).trans hx366_1;replace hx366_2:=(zR (p:=⟨gb361,0,none⟩) jAO (.string ((rd_T68 t353 x24_1).f0))).trans hx366_2;replace hx366_3:=(zR (p:=⟨gb361,0,none⟩) jAO (.string ((rd_T68 t353 x24_1).f0))).trans hx366_3;replace hx366_0:=(zR (p:=⟨gb361,1,none⟩) jAP (.int .i64 ((rd_T68 t353 x24_1).f1.f0))).trans hx366_0;replace hx366_1:=(zR (p:=⟨gb361,1,none⟩) jAP (.int .i64 ((rd_T68 t353 x24_1).f1.f0))).trans hx366_1;replace hx366_2:=(zR (p:=⟨gb361,1,none⟩) jAP (.int .i64 ((rd_T68 t353 x24_1).f1.f0))).trans hx366_2;replace hx366_3:=(zR (p:=⟨gb361,1,none⟩) jAP (.int .i64 ((rd_T68 t353 x24_1).f1.f0))).trans hx366_3;replace hx366_0:=(zR (p:=⟨gb361,2,none⟩) jAQ (.int .i64 ((rd_T68 t353 x24_1).f1.f1))).trans hx366_0;replace hx366_1:=(zR (p:=⟨gb361,2,none⟩) jAQ (.int .i64 ((rd_T68 t353 x24_1).f1.f1))).trans hx366_1;replace hx366_2:=(zR (p:=⟨gb361,2,none⟩) jAQ (.int .i64 ((rd_T68 t353 x24_1).f1.f1))).trans hx366_2;replace hx366_3:=(zR (p:=⟨gb361,2,none⟩) jAQ (.int .i64 ((rd_T68 t353 x24_1).f1.f1))).trans hx366_3;replace hx366_0:=(zR (p:=⟨gb361,3,none⟩) jAR (.string ((rd_T68 t353 x24_1).f1.f2))).trans hx366_0;replace hx366_1:=(zR (p:=⟨gb361,3,none⟩) jAR (.string ((rd_T68 t353 x24_1).f1.f2))).trans hx366_1;replace hx366_2:=(zR (p:=⟨gb361,3,none⟩) jAR (.string ((rd_T68 t353 x24_1).f1.f2))).trans hx366_2;replace hx366_3:=(zR (p:=⟨gb361,3,none⟩) jAR (.string ((rd_T68 t353 x24_1).f1.f2))).trans hx366_3;(try have hy366_0:=fun (n_ : Nat)=>(show ((((((w30.drewN n_).setCell ⟨gb361,0,none⟩ (.string ((rd_T68 t353 x24_1).f0))).setCell ⟨gb361,1,none⟩ (.int .i64 ((rd_T68 t353 x24_1).f1.f0))).setCell ⟨gb361,2,none⟩ (.int .i64 ((rd_T68 t353 x24_1).f1.f1))).setCell ⟨gb361,3,none⟩ (.string ((rd_T68 t353 x24_1).f1.f2)))).cell? _=some _ from hx366_0));(try have hy366_1:=fun (n_ : Nat)=>(show ((((((w30.drewN n_).setCell ⟨gb361,0,none⟩ (.string ((rd_T68 t353 x24_1).f0))).setCell ⟨gb361,1,none⟩ (.int .i64 ((rd_T68 t353 x24_1).f1.f0))).setCell ⟨gb361,2,none⟩ (.int .i64 ((rd_T68 t353 x24_1).f1.f1))).setCell ⟨gb361,3,none⟩ (.string ((rd_T68 t353 x24_1).f1.f2)))).cell? _=some _ from hx366_1));(try have hy366_2:=fun (n_ : Nat)=>(show ((((((w30.drewN n_).setCell ⟨gb361,0,none⟩ (.string ((rd_T68 t353 x24_1).f0))).setCell ⟨gb361,1,none⟩ (.int .i64 ((rd_T68 t353 x24_1).f1.f0))).setCell ⟨gb361,2,none⟩ (.int .i64 ((rd_T68 t353 x24_1).f1.f1))).setCell ⟨gb361,3,none⟩ (.string ((rd_T68 t353 x24_1).f1.f2)))).cell? _=some _ from hx366_2));(try have hy366_3:=fun (n_ : Nat)=>(show ((((((w30.drewN n_).setCell ⟨gb361,0,none⟩ (.string ((rd_T68 t353 x24_1).f0))).setCell ⟨gb361,1,none⟩ (.int .i64 ((rd_T68 t353 x24_1).f1.f0))).setCell ⟨gb361,2,none⟩ (.int .i64 ((rd_T68 t353 x24_1).f1.f1))).setCell ⟨gb361,3,none⟩ (.string ((rd_T68 t353 x24_1).f1.f2)))).cell? _=some _ from hx366_3));clear hn366_0 hn366_1 hn366_2 hn366_3;replace p366:=eq_true p366;replace q366:=eq_true q366)|(go_at_call 73;(with_reducible refine (F0g.calls k1  ((rd_T68 t353 x24_1).f0) true _ A18.out).mono ?_);rintro e w' ⟨rfl,⟨nd,rfl⟩⟩;(try first|exact ⟨rfl,_,World.drewN_drewN _ _ _⟩|exact ⟨rfl,_,Eq.trans (World.drewN_drewN _ _ _) (congrArg (World.drewN _) (Nat.add_assoc _ _ _))⟩))|((with_reducible refine yB (b:=.append) (xs:=#[.tmp 50,.tmp 53]) rfl ?_);at_builtin;refine Kd.R_append k24 (w0:=w) w.heap.size rfl (.tmp 50) (.tmp 53) 55 24 (.agg #[(.int .i64 0),(.int .i64 0),(.string ⟨#[]⟩)]) 32 rfl Try.underlying55 info24 rfl jC jH u6 x6_1 (⟨(rd_T68 t353 x24_1).f1.f0,(rd_T68 t353 x24_1).f1.f1,(rd_T68 t353 x24_1).f1.f2⟩ : S24) [.int .i64 ((rd_T68 t353 x24_1).f1.f0),.int .i64 ((rd_T68 t353 x24_1).f1.f1),.string ((rd_T68 t353 x24_1).f1.f2)] (fun k_=>k_≠gb348) (fun _=>False) rfl jAB ?aP (fun _ hk=>hk.elim) ?aF ?aO ?aB ?aS ?aL ?_;(case aP=>exact k24_mkM _ _ _ (⟨(rd_T68 t353 x24_1).f1.f0,(rd_T68 t353 x24_1).f1.f1,(rd_T68 t353 x24_1).f1.f2⟩ : S24));(case aB=>exact jX);(case aF=>exact (fun k_ hk=>Kd.freshB (g:=gb348) (o:=.cells #[.int .i64 a0_0,.int .i64 a0_1,.string a0_2] 24 (0,0)) jh k_ hk));(case aO=>exact jAK);(case aS=>exact (zB jX));(case aL=>have:=LMc29.out;omega);intro v368 w33 ho hb hg hat;rw [← Ny367.out] at ho;replace HO_4:=zh (Kd.R_over' jAL (Kd.R_typed ji) jC hg);replace HO_22:=zh (Kd.R_over' jAM (Kd.R_typed ji) jC hg);replace BK348:=zh (yw (g:=gb348) (o:=.cells #[.int .i64 a0_0,.int .i64 a0_1,.string a0_2] 24 (0,0)) jh hg (yv HO_6.out (fun _ hk=>hk)));replace BK361:=zh (yw (g:=gb361) (o:=.cells #[.string ((rd_T68 t353 x24_1).f0),.int .i64 ((rd_T68 t353 x24_1).f1.f0),.int .i64 ((rd_T68 t353 x24_1).f1.f1),.string ((rd_T68 t353 x24_1).f1.f2)] 68 (0,0)) jAN hg (Kd.R_ne HO_6.out BK361.out jC));replace HB:=zh (hb);have HO369:=zh (ho);clear HO_6 ho hb hg hat));try go_wp2_with (first|((with_reducible refine zK (N:=8) rfl ?_);refine zI ?hg (N:=8) ?hd (cs:=#[.string (⟨#[]⟩ : ByteArray),.int .i64 0,.int .i64 0,.string (⟨#[]⟩ : ByteArray)]) (t:=68) ?hr ?_;(case hd=>rfl);(case hg=>rfl);(case hr=>go_simp <;> rfl);intro gb361 hg w30 hbox hb;replace HO_4:=zh (yg (Kd.R_elderB jZ gb361 (Nat.le_of_eq hg.symm)) hb);replace HO_6:=zh (yg js hb);replace HO_22:=zh (yg (Kd.R_elderB jAI gb361 (Nat.le_of_eq hg.symm)) hb);have BK361:=zh (hbox);have hH_:=cH jT hb hg;have GW361:=zh hH_.1;have GE361:=GW361;replace HB:=zh hH_.2;have NB348_361:=zh ((jAJ : gb348≠gb361));have NB361_348:=zh NB348_361.out.symm;replace BK348:=zh (cD BK348.out jS hb);clear hb hbox hg hH_;have hnb31:=NB361_348.out;have hnc31:=NB348_361.out;obtain ⟨hcz32_0,hcz32_1,hcz32_2,hcz32_3,hfz32_0,hfz32_1,hfz32_2,hfz32_3⟩:=cB4 BK361.out;have p366 : 0≤((ji26) : Int):=zy jF;have q366 : (ji26)<(t353.length : Int):=zy jF;obtain ⟨ad366,e366,hx366_0,hx366_1,hx366_2,hx366_3⟩:=at_T68 (yh HO_4.out).2.2 (ji26) p366 q366;obtain rfl : ad360=ad366:=(by injection e366);have hn366_0 : ad360.block≠gb361:=Kd.own_blk (yv HO_4.out (fun _ hk=>hk.2));have hn366_1 : ad360.block≠gb361:=Kd.own_blk (yv HO_4.out (fun _ hk=>hk.2));have hn366_2 : ad360.block≠gb361:=Kd.own_blk (yv HO_4.out (fun _ hk=>hk.2));have hn366_3 : ad360.block≠gb361:=Kd.own_blk (yv HO_4.out (fun _ hk=>hk.2));replace hx366_0:=(zR (p:=⟨gb361,0,none⟩) jAO (.string ((rd_T68 t353 x24_1).f0))).trans hx366_0;replace hx366_1:=(zR (p:=⟨gb361,0,none⟩) jAO (.string ((rd_T68 t353 x24_1).f0))).trans hx366_1;replace hx366_2:=(zR (p:=⟨gb361,0,none⟩) jAO (.string ((rd_T68 t353 x24_1).f0))).trans hx366_2;replace hx366_3:=(zR (p:=⟨gb361,0,none⟩) jAO (.string ((rd_T68 t353 x24_1).f0))).trans hx366_3;replace hx366_0:=(zR (p:=⟨gb361,1,none⟩) jAP (.int .i64 ((rd_T68 t353 x24_1).f1.f0))).trans hx366_0;replace hx366_1:=(zR (p:=⟨gb361,1,none⟩) jAP (.int .i64 ((rd_T68 t353 x24_1).f1.f0))).trans hx366_1;replace hx366_2:=(zR (p:=⟨gb361,1,none⟩) jAP (.int .i64 ((rd_T68 t353 x24_1).f1.f0))).trans hx366_2;replace hx366_3:=(zR (p:=⟨gb361,1,none⟩) jAP (.int .i64 ((rd_T68 t353 x24_1).f1.f0))).trans hx366_3;replace hx366_0:=(zR (p:=⟨gb361,2,none⟩) jAQ (.int .i64 ((rd_T68 t353 x24_1).f1.f1))).trans hx366_0;replace hx366_1:=(zR (p:=⟨gb361,2,none⟩) jAQ (.int .i64 ((rd_T68 t353 x24_1).f1.f1))).trans hx366_1;replace hx366_2:=(zR (p:=⟨gb361,2,none⟩) jAQ (.int .i64 ((rd_T68 t353 x24_1).f1.f1))).trans hx366_2;replace hx366_3:=(zR (p:=⟨gb361,2,none⟩) jAQ (.int .i64 ((rd_T68 t353 x24_1).f1.f1))).trans hx366_3;replace hx366_0:=(zR (p:=⟨gb361,3,none⟩) jAR (.string ((rd_T68 t353 x24_1).f1.f2))).trans hx366_0;replace hx366_1:=(zR (p:=⟨gb361,3,none⟩) jAR (.string ((rd_T68 t353 x24_1).f1.f2))).trans hx366_1;replace hx366_2:=(zR (p:=⟨gb361,3,none⟩) jAR (.string ((rd_T68 t353 x24_1).f1.f2))).trans hx366_2;replace hx366_3:=(zR (p:=⟨gb361,3,none⟩) jAR (.string ((rd_T68 t353 x24_1).f1.f2))).trans hx366_3;(try have hy366_0:=fun (n_ : Nat)=>(show ((((((w30.drewN n_).setCell ⟨gb361,0,none⟩ (.string ((rd_T68 t353 x24_1).f0))).setCell ⟨gb361,1,none⟩ (.int .i64 ((rd_T68 t353 x24_1).f1.f0))).setCell ⟨gb361,2,none⟩ (.int .i64 ((rd_T68 t353 x24_1).f1.f1))).setCell ⟨gb361,3,none⟩ (.string ((rd_T68 t353 x24_1).f1.f2)))).cell? _=some _ from hx366_0));(try have hy366_1:=fun (n_ : Nat)=>(show ((((((w30.drewN n_).setCell ⟨gb361,0,none⟩ (.string ((rd_T68 t353 x24_1).f0))).setCell ⟨gb361,1,none⟩ (.int .i64 ((rd_T68 t353 x24_1).f1.f0))).setCell ⟨gb361,2,none⟩ (.int .i64 ((rd_T68 t353 x24_1).f1.f1))).setCell ⟨gb361,3,none⟩ (.string ((rd_T68 t353 x24_1).f1.f2)))).cell? _=some _ from hx366_1));(try have hy366_2:=fun (n_ : Nat)=>(show ((((((w30.drewN n_).setCell ⟨gb361,0,none⟩ (.string ((rd_T68 t353 x24_1).f0))).setCell ⟨gb361,1,none⟩ (.int .i64 ((rd_T68 t353 x24_1).f1.f0))).setCell ⟨gb361,2,none⟩ (.int .i64 ((rd_T68 t353 x24_1).f1.f1))).setCell ⟨gb361,3,none⟩ (.string ((rd_T68 t353 x24_1).f1.f2)))).cell? _=some _ from hx366_2));(try have hy366_3:=fun (n_ : Nat)=>(show ((((((w30.drewN n_).setCell ⟨gb361,0,none⟩ (.string ((rd_T68 t353 x24_1).f0))).setCell ⟨gb361,1,none⟩ (.int .i64 ((rd_T68 t353 x24_1).f1.f0))).setCell ⟨gb361,2,none⟩ (.int .i64 ((rd_T68 t353 x24_1).f1.f1))).setCell ⟨gb361,3,none⟩ (.string ((rd_T68 t353 x24_1).f1.f2)))).cell? _=some _ from hx366_3));clear hn366_0 hn366_1 hn366_2 hn366_3;replace p366:=eq_true p366;replace q366:=eq_true q366)|(go_at_call 73;(with_reducible refine (F0g.calls k1  ((rd_T68 t353 x24_1).f0) true _ A18.out).mono ?_);rintro e w' ⟨rfl,⟨nd,rfl⟩⟩;(try first|exact ⟨rfl,_,World.drewN_drewN _ _ _⟩|exact ⟨rfl,_,Eq.trans (World.drewN_drewN _ _ _) (congrArg (World.drewN _) (Nat.add_assoc _ _ _))⟩))|((with_reducible refine yB (b:=.append) (xs:=#[.tmp 50,.tmp 53]) rfl ?_);at_builtin;refine Kd.R_append k24 (w0:=w) w.heap.size rfl (.tmp 50) (.tmp 53) 55 24 (.agg #[(.int .i64 0),(.int .i64 0),(.string ⟨#[]⟩)]) 32 rfl Try.underlying55 info24 rfl jC jH u6 x6_1 (⟨(rd_T68 t353 x24_1).f1.f0,(rd_T68 t353 x24_1).f1.f1,(rd_T68 t353 x24_1).f1.f2⟩ : S24) [.int .i64 ((rd_T68 t353 x24_1).f1.f0),.int .i64 ((rd_T68 t353 x24_1).f1.f1),.string ((rd_T68 t353 x24_1).f1.f2)] (fun k_=>k_≠gb348) (fun _=>False) rfl jAB ?aP (fun _ hk=>hk.elim) ?aF ?aO ?aB ?aS ?aL ?_;(case aP=>exact k24_mkM _ _ _ (⟨(rd_T68 t353 x24_1).f1.f0,(rd_T68 t353 x24_1).f1.f1,(rd_T68 t353 x24_1).f1.f2⟩ : S24));(case aB=>exact jX);(case aF=>exact (fun k_ hk=>Kd.freshB (g:=gb348) (o:=.cells #[.int .i64 a0_0,.int .i64 a0_1,.string a0_2] 24 (0,0)) jh k_ hk));(case aO=>exact jAK);(case aS=>exact (zB jX));(case aL=>have:=LMc29.out;omega);intro v368 w33 ho hb hg hat;rw [← Ny367.out] at ho;replace HO_4:=zh (Kd.R_over' jAL (Kd.R_typed ji) jC hg);replace HO_22:=zh (Kd.R_over' jAM (Kd.R_typed ji) jC hg);replace BK348:=zh (yw (g:=gb348) (o:=.cells #[.int .i64 a0_0,.int .i64 a0_1,.string a0_2] 24 (0,0)) jh hg (yv HO_6.out (fun _ hk=>hk)));replace BK361:=zh (yw (g:=gb361) (o:=.cells #[.string ((rd_T68 t353 x24_1).f0),.int .i64 ((rd_T68 t353 x24_1).f1.f0),.int .i64 ((rd_T68 t353 x24_1).f1.f1),.string ((rd_T68 t353 x24_1).f1.f2)] 68 (0,0)) jAN hg (Kd.R_ne HO_6.out BK361.out jC));replace HB:=zh (hb);have HO369:=zh (ho);clear HO_6 ho hb hg hat)))
           go_roundg k1
           case measure=>have:=HK1.out;omega
           case rel=>exact ⟨((Op.bytesLess (((rd_T68 t353 (ji26)).f0).toList) (((rd_T68 t353 x24_1).f0).toList))),(y367),(wrap64 (x24_1+1)),(by first|rfl|(simp;done)|(simp only [← hji26] <;> (first|rfl|simp))|(simp [*];done)),jE,H',⟨jN⟩,⟨jBY⟩,⟨by (with_reducible repeat (first|apply zm|apply zn|apply zo));exact HO369.out⟩,⟨jBZ⟩,⟨jS⟩,⟨jX⟩⟩
          rw [if_neg c29] at H;exact absurd H (by simp)
         rw [if_neg c28] at H;exact absurd H (by simp)
        rw [if_neg c27] at H;exact absurd H (by simp)
       replace c19:=yb.mpr c19;subst c19;rw [if_neg (show ¬ (false=true) by decide)] at H
       by_cases c34 : x6_1.length<4398046511104
       ·
        rw [if_pos c34] at H
        have LMc34:=zh c34;clear c34;obtain ⟨y370,hy370⟩ : ∃ y_ : List (S24),y_=(x6_1 ++ [(⟨(rd_T68 t353 x24_1).f1.f0,(rd_T68 t353 x24_1).f1.f1,(rd_T68 t353 x24_1).f1.f2⟩ : S24)]):=⟨_,rfl⟩;replace H : (Fc.l0 k1 t353 false y370 t353 (t353.length : Int) (wrap64 (x24_1+1)))=some (r1,r2):=by first|(rw [hy370];with_reducible exact H)|(have H2_:=(Option.bind_some _ _).symm.trans H;rw [hy370];with_reducible exact H2_)|(have H2_:=(Option.bind_some _ _).symm.trans H;with_reducible exact H2_)|with_reducible exact H|(rw [hy370];exact H)|exact H
        have Ny370:=zh hy370;clear hy370;have H':=zh H;clear H;have p360 : 0≤(x24_1 : Int):=zy jF;have q360 : x24_1<(t353.length : Int):=zy jF;obtain ⟨ad360,e360,hx360_0,hx360_1,hx360_2,hx360_3⟩:=at_T68 (yh HO_22.out).2.2 x24_1 p360 q360
        cases e360
        replace p360:=eq_true p360;replace q360:=eq_true q360
        go_wp2_with (first|((with_reducible refine zK (N:=8) rfl ?_);refine zI ?hg (N:=8) ?hd (cs:=#[.string (⟨#[]⟩ : ByteArray),.int .i64 0,.int .i64 0,.string (⟨#[]⟩ : ByteArray)]) (t:=68) ?hr ?_;(case hd=>rfl);(case hg=>rfl);(case hr=>go_simp <;> rfl);intro gb361 hg w35 hbox hb;replace HO_4:=zh (yg (Kd.R_elderB jZ gb361 (Nat.le_of_eq hg.symm)) hb);replace HO_6:=zh (yg js hb);replace HO_22:=zh (yg (Kd.R_elderB jAI gb361 (Nat.le_of_eq hg.symm)) hb);have BK361:=zh (hbox);have hH_:=cH jT hb hg;have GW361:=zh hH_.1;have GE361:=GW361;replace HB:=zh hH_.2;have NB348_361:=zh ((jAJ : gb348≠gb361));have NB361_348:=zh NB348_361.out.symm;replace BK348:=zh (cD BK348.out jS hb);clear hb hbox hg hH_;have hnb36:=NB361_348.out;have hnc36:=NB348_361.out;obtain ⟨hcz37_0,hcz37_1,hcz37_2,hcz37_3,hfz37_0,hfz37_1,hfz37_2,hfz37_3⟩:=cB4 BK361.out)|(go_at_call 73;(with_reducible refine (F0g.calls k1  ((rd_T68 t353 x24_1).f0) false _ A18.out).mono ?_);rintro e w' ⟨rfl,⟨nd,rfl⟩⟩;(try first|exact ⟨rfl,_,World.drewN_drewN _ _ _⟩|exact ⟨rfl,_,Eq.trans (World.drewN_drewN _ _ _) (congrArg (World.drewN _) (Nat.add_assoc _ _ _))⟩))|((with_reducible refine yB (b:=.append) (xs:=#[.tmp 50,.tmp 53]) rfl ?_);at_builtin;refine Kd.R_append k24 (w0:=w) w.heap.size rfl (.tmp 50) (.tmp 53) 55 24 (.agg #[(.int .i64 0),(.int .i64 0),(.string ⟨#[]⟩)]) 32 rfl Try.underlying55 info24 rfl jC jH u6 x6_1 (⟨(rd_T68 t353 x24_1).f1.f0,(rd_T68 t353 x24_1).f1.f1,(rd_T68 t353 x24_1).f1.f2⟩ : S24) [.int .i64 ((rd_T68 t353 x24_1).f1.f0),.int .i64 ((rd_T68 t353 x24_1).f1.f1),.string ((rd_T68 t353 x24_1).f1.f2)] (fun k_=>k_≠gb348) (fun _=>False) rfl jAB ?aP (fun _ hk=>hk.elim) ?aF ?aO ?aB ?aS ?aL ?_;(case aP=>exact k24_mkM _ _ _ (⟨(rd_T68 t353 x24_1).f1.f0,(rd_T68 t353 x24_1).f1.f1,(rd_T68 t353 x24_1).f1.f2⟩ : S24));(case aB=>exact jX);(case aF=>exact (fun k_ hk=>Kd.freshB (g:=gb348) (o:=.cells #[.int .i64 a0_0,.int .i64 a0_1,.string a0_2] 24 (0,0)) jh k_ hk));(case aO=>exact jAK);(case aS=>exact (zB jX));(case aL=>have:=LMc34.out;omega);intro v371 w38 ho hb hg hat;rw [← Ny370.out] at ho;replace HO_4:=zh (Kd.R_over' jAL (Kd.R_typed ji) jC hg);replace HO_22:=zh (Kd.R_over' jAM (Kd.R_typed ji) jC hg);replace BK348:=zh (yw (g:=gb348) (o:=.cells #[.int .i64 a0_0,.int .i64 a0_1,.string a0_2] 24 (0,0)) jh hg (yv HO_6.out (fun _ hk=>hk)));replace BK361:=zh (yw (g:=gb361) (o:=.cells #[.string ((rd_T68 t353 x24_1).f0),.int .i64 ((rd_T68 t353 x24_1).f1.f0),.int .i64 ((rd_T68 t353 x24_1).f1.f1),.string ((rd_T68 t353 x24_1).f1.f2)] 68 (0,0)) jAN hg (Kd.R_ne HO_6.out BK361.out jC));replace HB:=zh (hb);have HO372:=zh (ho);clear HO_6 ho hb hg hat))
        repeat (go_quiet (first|((with_reducible refine zK (N:=8) rfl ?_);refine zI ?hg (N:=8) ?hd (cs:=#[.string (⟨#[]⟩ : ByteArray),.int .i64 0,.int .i64 0,.string (⟨#[]⟩ : ByteArray)]) (t:=68) ?hr ?_;(case hd=>rfl);(case hg=>rfl);(case hr=>go_simp <;> rfl);intro gb361 hg w35 hbox hb;replace HO_4:=zh (yg (Kd.R_elderB jZ gb361 (Nat.le_of_eq hg.symm)) hb);replace HO_6:=zh (yg js hb);replace HO_22:=zh (yg (Kd.R_elderB jAI gb361 (Nat.le_of_eq hg.symm)) hb);have BK361:=zh (hbox);have hH_:=cH jT hb hg;have GW361:=zh hH_.1;have GE361:=GW361;replace HB:=zh hH_.2;have NB348_361:=zh ((jAJ : gb348≠gb361));have NB361_348:=zh NB348_361.out.symm;replace BK348:=zh (cD BK348.out jS hb);clear hb hbox hg hH_;have hnb36:=NB361_348.out;have hnc36:=NB348_361.out;obtain ⟨hcz37_0,hcz37_1,hcz37_2,hcz37_3,hfz37_0,hfz37_1,hfz37_2,hfz37_3⟩:=cB4 BK361.out)|(go_at_call 73;(with_reducible refine (F0g.calls k1  ((rd_T68 t353 x24_1).f0) false _ A18.out).mono ?_);rintro e w' ⟨rfl,⟨nd,rfl⟩⟩;(try first|exact ⟨rfl,_,World.drewN_drewN _ _ _⟩|exact ⟨rfl,_,Eq.trans (World.drewN_drewN _ _ _) (congrArg (World.drewN _) (Nat.add_assoc _ _ _))⟩))|((with_reducible refine yB (b:=.append) (xs:=#[.tmp 50,.tmp 53]) rfl ?_);at_builtin;refine Kd.R_append k24 (w0:=w) w.heap.size rfl (.tmp 50) (.tmp 53) 55 24 (.agg #[(.int .i64 0),(.int .i64 0),(.string ⟨#[]⟩)]) 32 rfl Try.underlying55 info24 rfl jC jH u6 x6_1 (⟨(rd_T68 t353 x24_1).f1.f0,(rd_T68 t353 x24_1).f1.f1,(rd_T68 t353 x24_1).f1.f2⟩ : S24) [.int .i64 ((rd_T68 t353 x24_1).f1.f0),.int .i64 ((rd_T68 t353 x24_1).f1.f1),.string ((rd_T68 t353 x24_1).f1.f2)] (fun k_=>k_≠gb348) (fun _=>False) rfl jAB ?aP (fun _ hk=>hk.elim) ?aF ?aO ?aB ?aS ?aL ?_;(case aP=>exact k24_mkM _ _ _ (⟨(rd_T68 t353 x24_1).f1.f0,(rd_T68 t353 x24_1).f1.f1,(rd_T68 t353 x24_1).f1.f2⟩ : S24));(case aB=>exact jX);(case aF=>exact (fun k_ hk=>Kd.freshB (g:=gb348) (o:=.cells #[.int .i64 a0_0,.int .i64 a0_1,.string a0_2] 24 (0,0)) jh k_ hk));(case aO=>exact jAK);(case aS=>exact (zB jX));(case aL=>have:=LMc34.out;omega);intro v371 w38 ho hb hg hat;rw [← Ny370.out] at ho;replace HO_4:=zh (Kd.R_over' jAL (Kd.R_typed ji) jC hg);replace HO_22:=zh (Kd.R_over' jAM (Kd.R_typed ji) jC hg);replace BK348:=zh (yw (g:=gb348) (o:=.cells #[.int .i64 a0_0,.int .i64 a0_1,.string a0_2] 24 (0,0)) jh hg (yv HO_6.out (fun _ hk=>hk)));replace BK361:=zh (yw (g:=gb361) (o:=.cells #[.string ((rd_T68 t353 x24_1).f0),.int .i64 ((rd_T68 t353 x24_1).f1.f0),.int .i64 ((rd_T68 t353 x24_1).f1.f1),.string ((rd_T68 t353 x24_1).f1.f2)] 68 (0,0)) jAN hg (Kd.R_ne HO_6.out BK361.out jC));replace HB:=zh (hb);have HO372:=zh (ho);clear HO_6 ho hb hg hat));try go_wp2_with (first|((with_reducible refine zK (N:=8) rfl ?_);refine zI ?hg (N:=8) ?hd (cs:=#[.string (⟨#[]⟩ : ByteArray),.int .i64 0,.int .i64 0,.string (⟨#[]⟩ : ByteArray)]) (t:=68) ?hr ?_;(case hd=>rfl);(case hg=>rfl);(case hr=>go_simp <;> rfl);intro gb361 hg w35 hbox hb;replace HO_4:=zh (yg (Kd.R_elderB jZ gb361 (Nat.le_of_eq hg.symm)) hb);replace HO_6:=zh (yg js hb);replace HO_22:=zh (yg (Kd.R_elderB jAI gb361 (Nat.le_of_eq hg.symm)) hb);have BK361:=zh (hbox);have hH_:=cH jT hb hg;have GW361:=zh hH_.1;have GE361:=GW361;replace HB:=zh hH_.2;have NB348_361:=zh ((jAJ : gb348≠gb361));have NB361_348:=zh NB348_361.out.symm;replace BK348:=zh (cD BK348.out jS hb);clear hb hbox hg hH_;have hnb36:=NB361_348.out;have hnc36:=NB348_361.out;obtain ⟨hcz37_0,hcz37_1,hcz37_2,hcz37_3,hfz37_0,hfz37_1,hfz37_2,hfz37_3⟩:=cB4 BK361.out)|(go_at_call 73;(with_reducible refine (F0g.calls k1  ((rd_T68 t353 x24_1).f0) false _ A18.out).mono ?_);rintro e w' ⟨rfl,⟨nd,rfl⟩⟩;(try first|exact ⟨rfl,_,World.drewN_drewN _ _ _⟩|exact ⟨rfl,_,Eq.trans (World.drewN_drewN _ _ _) (congrArg (World.drewN _) (Nat.add_assoc _ _ _))⟩))|((with_reducible refine yB (b:=.append) (xs:=#[.tmp 50,.tmp 53]) rfl ?_);at_builtin;refine Kd.R_append k24 (w0:=w) w.heap.size rfl (.tmp 50) (.tmp 53) 55 24 (.agg #[(.int .i64 0),(.int .i64 0),(.string ⟨#[]⟩)]) 32 rfl Try.underlying55 info24 rfl jC jH u6 x6_1 (⟨(rd_T68 t353 x24_1).f1.f0,(rd_T68 t353 x24_1).f1.f1,(rd_T68 t353 x24_1).f1.f2⟩ : S24) [.int .i64 ((rd_T68 t353 x24_1).f1.f0),.int .i64 ((rd_T68 t353 x24_1).f1.f1),.string ((rd_T68 t353 x24_1).f1.f2)] (fun k_=>k_≠gb348) (fun _=>False) rfl jAB ?aP (fun _ hk=>hk.elim) ?aF ?aO ?aB ?aS ?aL ?_;(case aP=>exact k24_mkM _ _ _ (⟨(rd_T68 t353 x24_1).f1.f0,(rd_T68 t353 x24_1).f1.f1,(rd_T68 t353 x24_1).f1.f2⟩ : S24));(case aB=>exact jX);(case aF=>exact (fun k_ hk=>Kd.freshB (g:=gb348) (o:=.cells #[.int .i64 a0_0,.int .i64 a0_1,.string a0_2] 24 (0,0)) jh k_ hk));(case aO=>exact jAK);(case aS=>exact (zB jX));(case aL=>have:=LMc34.out;omega);intro v371 w38 ho hb hg hat;rw [← Ny370.out] at ho;replace HO_4:=zh (Kd.R_over' jAL (Kd.R_typed ji) jC hg);replace HO_22:=zh (Kd.R_over' jAM (Kd.R_typed ji) jC hg);replace BK348:=zh (yw (g:=gb348) (o:=.cells #[.int .i64 a0_0,.int .i64 a0_1,.string a0_2] 24 (0,0)) jh hg (yv HO_6.out (fun _ hk=>hk)));replace BK361:=zh (yw (g:=gb361) (o:=.cells #[.string ((rd_T68 t353 x24_1).f0),.int .i64 ((rd_T68 t353 x24_1).f1.f0),.int .i64 ((rd_T68 t353 x24_1).f1.f1),.string ((rd_T68 t353 x24_1).f1.f2)] 68 (0,0)) jAN hg (Kd.R_ne HO_6.out BK361.out jC));replace HB:=zh (hb);have HO372:=zh (ho);clear HO_6 ho hb hg hat)))
        go_roundg k1
        case measure=>have:=HK1.out;omega
        case rel=>exact ⟨(false),(y370),(wrap64 (x24_1+1)),jE,jE,H',⟨jN⟩,⟨jBY⟩,⟨by (with_reducible repeat (first|apply zm|apply zn|apply zo));exact HO372.out⟩,⟨jBZ⟩,⟨jS⟩,⟨jX⟩⟩
       rw [if_neg c34] at H;exact absurd H (by simp)
      replace c17:=yb.mpr c17;subst c17;rw [if_neg (show ¬ (false=true) by decide)] at H
      by_cases c39 : x6_1.length<4398046511104
      ·
       rw [if_pos c39] at H
       have LMc39:=zh c39;clear c39;obtain ⟨y373,hy373⟩ : ∃ y_ : List (S24),y_=(x6_1 ++ [(⟨(rd_T68 t353 x24_1).f1.f0,(rd_T68 t353 x24_1).f1.f1,(rd_T68 t353 x24_1).f1.f2⟩ : S24)]):=⟨_,rfl⟩;replace H : (Fc.l0 k1 t353 false y373 t353 (t353.length : Int) (wrap64 (x24_1+1)))=some (r1,r2):=by first|(rw [hy373];with_reducible exact H)|(have H2_:=(Option.bind_some _ _).symm.trans H;rw [hy373];with_reducible exact H2_)|(have H2_:=(Option.bind_some _ _).symm.trans H;with_reducible exact H2_)|with_reducible exact H|(rw [hy373];exact H)|exact H
       have Ny373:=zh hy373;clear hy373;have H':=zh H;clear H;have p360 : 0≤(x24_1 : Int):=zy jF;have q360 : x24_1<(t353.length : Int):=zy jF;obtain ⟨ad360,e360,hx360_0,hx360_1,hx360_2,hx360_3⟩:=at_T68 (yh HO_22.out).2.2 x24_1 p360 q360
       cases e360
       replace p360:=eq_true p360;replace q360:=eq_true q360
       go_wp2_with (first|((with_reducible refine zK (N:=8) rfl ?_);refine zI ?hg (N:=8) ?hd (cs:=#[.string (⟨#[]⟩ : ByteArray),.int .i64 0,.int .i64 0,.string (⟨#[]⟩ : ByteArray)]) (t:=68) ?hr ?_;(case hd=>rfl);(case hg=>rfl);(case hr=>go_simp <;> rfl);intro gb361 hg w40 hbox hb;replace HO_4:=zh (yg (Kd.R_elderB jZ gb361 (Nat.le_of_eq hg.symm)) hb);replace HO_6:=zh (yg js hb);replace HO_22:=zh (yg (Kd.R_elderB jAI gb361 (Nat.le_of_eq hg.symm)) hb);have BK361:=zh (hbox);have hH_:=cH jT hb hg;have GW361:=zh hH_.1;have GE361:=GW361;replace HB:=zh hH_.2;have NB348_361:=zh ((jAJ : gb348≠gb361));have NB361_348:=zh NB348_361.out.symm;replace BK348:=zh (cD BK348.out jS hb);clear hb hbox hg hH_;have hnb41:=NB361_348.out;have hnc41:=NB348_361.out;obtain ⟨hcz42_0,hcz42_1,hcz42_2,hcz42_3,hfz42_0,hfz42_1,hfz42_2,hfz42_3⟩:=cB4 BK361.out)|((with_reducible refine yB (b:=.append) (xs:=#[.tmp 50,.tmp 53]) rfl ?_);at_builtin;refine Kd.R_append k24 (w0:=w) w.heap.size rfl (.tmp 50) (.tmp 53) 55 24 (.agg #[(.int .i64 0),(.int .i64 0),(.string ⟨#[]⟩)]) 32 rfl Try.underlying55 info24 rfl jC jH u6 x6_1 (⟨(rd_T68 t353 x24_1).f1.f0,(rd_T68 t353 x24_1).f1.f1,(rd_T68 t353 x24_1).f1.f2⟩ : S24) [.int .i64 ((rd_T68 t353 x24_1).f1.f0),.int .i64 ((rd_T68 t353 x24_1).f1.f1),.string ((rd_T68 t353 x24_1).f1.f2)] (fun k_=>k_≠gb348) (fun _=>False) rfl jAB ?aP (fun _ hk=>hk.elim) ?aF ?aO ?aB ?aS ?aL ?_;(case aP=>exact k24_mkM _ _ _ (⟨(rd_T68 t353 x24_1).f1.f0,(rd_T68 t353 x24_1).f1.f1,(rd_T68 t353 x24_1).f1.f2⟩ : S24));(case aB=>exact jX);(case aF=>exact (fun k_ hk=>Kd.freshB (g:=gb348) (o:=.cells #[.int .i64 a0_0,.int .i64 a0_1,.string a0_2] 24 (0,0)) jh k_ hk));(case aO=>exact jAK);(case aS=>exact (zB jX));(case aL=>have:=LMc39.out;omega);intro v374 w43 ho hb hg hat;rw [← Ny373.out] at ho;replace HO_4:=zh (Kd.R_over' jAL (Kd.R_typed ji) jC hg);replace HO_22:=zh (Kd.R_over' jAM (Kd.R_typed ji) jC hg);replace BK348:=zh (yw (g:=gb348) (o:=.cells #[.int .i64 a0_0,.int .i64 a0_1,.string a0_2] 24 (0,0)) jh hg (yv HO_6.out (fun _ hk=>hk)));replace BK361:=zh (yw (g:=gb361) (o:=.cells #[.string ((rd_T68 t353 x24_1).f0),.int .i64 ((rd_T68 t353 x24_1).f1.f0),.int .i64 ((rd_T68 t353 x24_1).f1.f1),.string ((rd_T68 t353 x24_1).f1.f2)] 68 (0,0)) jAN hg (Kd.R_ne HO_6.out BK361.out jC));replace HB:=zh (hb);have HO375:=zh (ho);clear HO_6 ho hb hg hat))
       repeat (go_quiet (first|((with_reducible refine zK (N:=8) rfl ?_);refine zI ?hg (N:=8) ?hd (cs:=#[.string (⟨#[]⟩ : ByteArray),.int .i64 0,.int .i64 0,.string (⟨#[]⟩ : ByteArray)]) (t:=68) ?hr ?_;(case hd=>rfl);(case hg=>rfl);(case hr=>go_simp <;> rfl);intro gb361 hg w40 hbox hb;replace HO_4:=zh (yg (Kd.R_elderB jZ gb361 (Nat.le_of_eq hg.symm)) hb);replace HO_6:=zh (yg js hb);replace HO_22:=zh (yg (Kd.R_elderB jAI gb361 (Nat.le_of_eq hg.symm)) hb);have BK361:=zh (hbox);have hH_:=cH jT hb hg;have GW361:=zh hH_.1;have GE361:=GW361;replace HB:=zh hH_.2;have NB348_361:=zh ((jAJ : gb348≠gb361));have NB361_348:=zh NB348_361.out.symm;replace BK348:=zh (cD BK348.out jS hb);clear hb hbox hg hH_;have hnb41:=NB361_348.out;have hnc41:=NB348_361.out;obtain ⟨hcz42_0,hcz42_1,hcz42_2,hcz42_3,hfz42_0,hfz42_1,hfz42_2,hfz42_3⟩:=cB4 BK361.out)|((with_reducible refine yB (b:=.append) (xs:=#[.tmp 50,.tmp 53]) rfl ?_);at_builtin;refine Kd.R_append k24 (w0:=w) w.heap.size rfl (.tmp 50) (.tmp 53) 55 24 (.agg #[(.int .i64 0),(.int .i64 0),(.string ⟨#[]⟩)]) 32 rfl Try.underlying55 info24 rfl jC jH u6 x6_1 (⟨(rd_T68 t353 x24_1).f1.f0,(rd_T68 t353 x24_1).f1.f1,(rd_T68 t353 x24_1).f1.f2⟩ : S24) [.int .i64 ((rd_T68 t353 x24_1).f1.f0),.int .i64 ((rd_T68 t353 x24_1).f1.f1),.string ((rd_T68 t353 x24_1).f1.f2)] (fun k_=>k_≠gb348) (fun _=>False) rfl jAB ?aP (fun _ hk=>hk.elim) ?aF ?aO ?aB ?aS ?aL ?_;(case aP=>exact k24_mkM _ _ _ (⟨(rd_T68 t353 x24_1).f1.f0,(rd_T68 t353 x24_1).f1.f1,(rd_T68 t353 x24_1).f1.f2⟩ : S24));(case aB=>exact jX);(case aF=>exact (fun k_ hk=>Kd.freshB (g:=gb348) (o:=.cells #[.int .i64 a0_0,.int .i64 a0_1,.string a0_2] 24 (0,0)) jh k_ hk));(case aO=>exact jAK);(case aS=>exact (zB jX));(case aL=>have:=LMc39.out;omega);intro v374 w43 ho hb hg hat;rw [← Ny373.out] at ho;replace HO_4:=zh (Kd.R_over' jAL (Kd.R_typed ji) jC hg);replace HO_22:=zh (Kd.R_over' jAM (Kd.R_typed ji) jC hg);replace BK348:=zh (yw (g:=gb348) (o:=.cells #[.int .i64 a0_0,.int .i64 a0_1,.string a0_2] 24 (0,0)) jh hg (yv HO_6.out (fun _ hk=>hk)));replace BK361:=zh (yw (g:=gb361) (o:=.cells #[.string ((rd_T68 t353 x24_1).f0),.int .i64 ((rd_T68 t353 x24_1).f1.f0),.int .i64 ((rd_T68 t353 x24_1).f1.f1),.string ((rd_T68 t353 x24_1).f1.f2)] 68 (0,0)) jAN hg (Kd.R_ne HO_6.out BK361.out jC));replace HB:=zh (hb);have HO375:=zh (ho);clear HO_6 ho hb hg hat));try go_wp2_with (first|((with_reducible refine zK (N:=8) rfl ?_);refine zI ?hg (N:=8) ?hd (cs:=#[.string (⟨#[]⟩ : ByteArray),.int .i64 0,.int .i64 0,.string (⟨#[]⟩ : ByteArray)]) (t:=68) ?hr ?_;(case hd=>rfl);(case hg=>rfl);(case hr=>go_simp <;> rfl);intro gb361 hg w40 hbox hb;replace HO_4:=zh (yg (Kd.R_elderB jZ gb361 (Nat.le_of_eq hg.symm)) hb);replace HO_6:=zh (yg js hb);replace HO_22:=zh (yg (Kd.R_elderB jAI gb361 (Nat.le_of_eq hg.symm)) hb);have BK361:=zh (hbox);have hH_:=cH jT hb hg;have GW361:=zh hH_.1;have GE361:=GW361;replace HB:=zh hH_.2;have NB348_361:=zh ((jAJ : gb348≠gb361));have NB361_348:=zh NB348_361.out.symm;replace BK348:=zh (cD BK348.out jS hb);clear hb hbox hg hH_;have hnb41:=NB361_348.out;have hnc41:=NB348_361.out;obtain ⟨hcz42_0,hcz42_1,hcz42_2,hcz42_3,hfz42_0,hfz42_1,hfz42_2,hfz42_3⟩:=cB4 BK361.out)|((with_reducible refine yB (b:=.append) (xs:=#[.tmp 50,.tmp 53]) rfl ?_);at_builtin;refine Kd.R_append k24 (w0:=w) w.heap.size rfl (.tmp 50) (.tmp 53) 55 24 (.agg #[(.int .i64 0),(.int .i64 0),(.string ⟨#[]⟩)]) 32 rfl Try.underlying55 info24 rfl jC jH u6 x6_1 (⟨(rd_T68 t353 x24_1).f1.f0,(rd_T68 t353 x24_1).f1.f1,(rd_T68 t353 x24_1).f1.f2⟩ : S24) [.int .i64 ((rd_T68 t353 x24_1).f1.f0),.int .i64 ((rd_T68 t353 x24_1).f1.f1),.string ((rd_T68 t353 x24_1).f1.f2)] (fun k_=>k_≠gb348) (fun _=>False) rfl jAB ?aP (fun _ hk=>hk.elim) ?aF ?aO ?aB ?aS ?aL ?_;(case aP=>exact k24_mkM _ _ _ (⟨(rd_T68 t353 x24_1).f1.f0,(rd_T68 t353 x24_1).f1.f1,(rd_T68 t353 x24_1).f1.f2⟩ : S24));(case aB=>exact jX);(case aF=>exact (fun k_ hk=>Kd.freshB (g:=gb348) (o:=.cells #[.int .i64 a0_0,.int .i64 a0_1,.string a0_2] 24 (0,0)) jh k_ hk));(case aO=>exact jAK);(case aS=>exact (zB jX));(case aL=>have:=LMc39.out;omega);intro v374 w43 ho hb hg hat;rw [← Ny373.out] at ho;replace HO_4:=zh (Kd.R_over' jAL (Kd.R_typed ji) jC hg);replace HO_22:=zh (Kd.R_over' jAM (Kd.R_typed ji) jC hg);replace BK348:=zh (yw (g:=gb348) (o:=.cells #[.int .i64 a0_0,.int .i64 a0_1,.string a0_2] 24 (0,0)) jh hg (yv HO_6.out (fun _ hk=>hk)));replace BK361:=zh (yw (g:=gb361) (o:=.cells #[.string ((rd_T68 t353 x24_1).f0),.int .i64 ((rd_T68 t353 x24_1).f1.f0),.int .i64 ((rd_T68 t353 x24_1).f1.f1),.string ((rd_T68 t353 x24_1).f1.f2)] 68 (0,0)) jAN hg (Kd.R_ne HO_6.out BK361.out jC));replace HB:=zh (hb);have HO375:=zh (ho);clear HO_6 ho hb hg hat)))
       go_roundg k1
       case measure=>have:=HK1.out;omega
       case rel=>exact ⟨(false),(y373),(wrap64 (x24_1+1)),jE,jE,H',⟨jN⟩,⟨jBY⟩,⟨by (with_reducible repeat (first|apply zm|apply zn|apply zo));exact HO375.out⟩,⟨jBZ⟩,⟨jS⟩,⟨jX⟩⟩
      rw [if_neg c39] at H;exact absurd H (by simp)
     rw [if_neg c16] at H;exact absurd H (by simp)
    rw [if_neg c15] at H;exact absurd H (by simp)
   rw [if_neg c14] at H;have c14b0 : decide (x24_1<(t353.length : Int))=false:=decide_eq_false c14;clear c14;simp only [Option.some.injEq,Prod.mk.injEq] at H;obtain ⟨rfl,rfl⟩:=H
   go_wp2
   repeat (go_quiet (fail);try go_wp2)
   go_ret2
   exact ⟨_,jG,by (with_reducible repeat (first|apply zm|apply zn|apply zo));exact zM HO_6.out (fun _ hk=>trivial),jT⟩


theorem eqA24 (d : Nat) (w : World) (x0 y0 : Int) (x1 y1 : Int) (x2 y2 : ByteArray) :
  (Op.equalIn (d+2) 24 (.agg #[.int .i64 x0,.int .i64 x1,.string x2]) (.agg #[.int .i64 y0,.int .i64 y1,.string y2])).run Try.prog w = .ok (x0 == y0 && (x1 == y1 && (x2.toList == y2.toList))) w:=by
 refine eqA_of Try.underlying24 jA ?_;refine eqf_cons (by rfl) (by go_simp;rfl) (by go_simp;rfl) (by go_simp) ?_;refine eqf_cons (by rfl) (by go_simp;rfl) (by go_simp;rfl) (by go_simp) ?_;exact eqf_last (by rfl) (by go_simp;rfl) (by go_simp;rfl) (by go_simp)
end Go.Proofs.Ytdjnplkpahgnmaa.Q
end
section
namespace Go.Proofs.Ytdjnplkpahgnmaa.Q
open Go.RowKit Go.Proofs.YtdjnplkpahgnmaaW.PrintWords Go.Proofs.YtdjnplkpahgnmaaW.PrintLast Go.Proofs.YtdjnplkpahgnmaaW.PrintMore
attribute [local go_sem] max2_int min2_int max_two min_two max_three min_three max_four min_four max2_str min2_str str_geq str_gtr str_leq   -- for this text's walks alone
set_option linter.unusedVariables false
set_option linter.unusedSimpArgs false

attribute [local go_sem high] eqA24
mutual
def Fb.j0 : Nat→Bool→Int→Int→ByteArray→Int→Option (Bool)
 | 0,_,_,_,_,_=>none
 | k+1,x45,x382000,x382001,x382002,x383000=>if x45=true then ((Fc.f k x382000 x382001 x382002).bind fun bt385=>(if x382001=0 then (if (x382002.size : Int)≤300 then (if x383000 > 0 then (if bt385.2=true then ((Fk.f k (Fb.f k) bt385.1 x383000).bind fun t389=>(some (!t389))) else (some false)) else (some false)) else (some false)) else (some false))) else (some false)
def Fb.f : Nat→Int→Int→ByteArray→Int→Option (Bool)
 | 0,_,_,_,_=>none
 | k+1,a0_0,a0_1,a0_2,a1=>if a0_0=0 then (some (a0_0 == 0 && (a0_1 == 0 && (a0_2.toList == ([] : List UInt8))))) else (if a0_0=1 then ((F0j.f a0_1 0 1).bind fun t383=>(if t383=true then (some (a0_2.toList == ([] : List UInt8))) else (some false))) else (if a0_0=2 then ((F13.f a0_1).bind fun t384=>(if t384=true then (some (a0_2.toList == ([] : List UInt8))) else (some false))) else (if a0_0=3 then (if a0_1=0 then (some (decide ((a0_2.size : Int)≤300))) else (some false)) else (if a0_0=4 then (Fb.j0 k (a0_0 == 4) a0_0 a0_1 a0_2 a1) else (Fb.j0 k (a0_0 == 5) a0_0 a0_1 a0_2 a1)))))
end
theorem Fb.mono_l : ∀ k,(∀ y0 y1 y2 y3,LeO (Fb.f k y0 y1 y2 y3) (Fb.f (k+1) y0 y1 y2 y3))∧(∀ y0 y1 y2 y3 y4,LeO (Fb.j0 k y0 y1 y2 y3 y4) (Fb.j0 (k+1) y0 y1 y2 y3 y4))
 | 0=>⟨fun _ _ _ _ r h=>by simp [Fb.f] at h,fun _ _ _ _ _ r h=>by simp [Fb.j0] at h⟩
 | k+1=>by
  obtain ⟨ih0,ih1⟩:=Fb.mono_l k;refine ⟨?_,?_⟩
  ·
   intro y0 y1 y2 y3
   unfold Fb.f
   repeat' first|(with_reducible first|exact ih0 _ _ _ _|exact ih1 _ _ _ _ _|exact Fc.mono _ _ _ _|exact Fk.mono _ _ ih0 _ _ _|exact zQ _|exact zN _|refine zP ?_ ?_|refine zO ?_ (fun _=>?_))|refine zP ?_ ?_|refine zO ?_ (fun _=>?_)
  intro y0 y1 y2 y3 y4;unfold Fb.j0
  repeat' first|(with_reducible first|exact ih0 _ _ _ _|exact ih1 _ _ _ _ _|exact Fc.mono _ _ _ _|exact Fk.mono _ _ ih0 _ _ _|exact zQ _|exact zN _|refine zP ?_ ?_|refine zO ?_ (fun _=>?_))|refine zP ?_ ?_|refine zO ?_ (fun _=>?_)
theorem Fb.mono : ∀ a0 a1 a2 a3 k,LeO (Fb.f k a0 a1 a2 a3) (Fb.f (k+1) a0 a1 a2 a3):=by
 intro a0 a1 a2 a3 k;obtain ⟨ih0,ih1⟩:=Fb.mono_l k;exact ih0 a0 a1 a2 a3
set_option maxHeartbeats 8000000 in
set_option maxRecDepth 100000 in
theorem Fb.calls (k : Nat) : ∀ (a0_0 : Int) (a0_1 : Int) (a0_2 : ByteArray) (a1 : Int) (r : Bool) (w : World) (h : Fb.f k a0_0 a0_1 a0_2 a1=some r),
  Calls Try.prog 39 #[.agg #[.int .i64 a0_0,.int .i64 a0_1,.string a0_2],.int .i64 a1] w fun e w' => e = .returned (.bool r)∧Below w.heap.size w w':=by
 induction k using Nat.strongRecOn with
 | _ k ih =>
 intro a0_0 a0_1 a0_2 a1 r w h
 cases k with
 | zero=>exact absurd h (by simp [Fb.f])
 | succ k =>
 simp only [Fb.f] at h;have hu24:=Try.underlying24;have HB:=zh (Below.refl w.heap.size w);have H : (if a0_0=0 then (some (a0_0 == 0 && (a0_1 == 0 && (a0_2.toList == ([] : List UInt8))))) else (if a0_0=1 then ((F0j.f a0_1 0 1).bind fun t383=>(if t383=true then (some (a0_2.toList == ([] : List UInt8))) else (some false))) else (if a0_0=2 then ((F13.f a0_1).bind fun t384=>(if t384=true then (some (a0_2.toList == ([] : List UInt8))) else (some false))) else (if a0_0=3 then (if a0_1=0 then (some (decide ((a0_2.size : Int)≤300))) else (some false)) else (if a0_0=4 then (Fb.j0 k (a0_0 == 4) a0_0 a0_1 a0_2 a1) else (Fb.j0 k (a0_0 == 5) a0_0 a0_1 a0_2 a1))))))=some r:=h;clear h
 by_cases c3 : a0_0=0
 ·
  rw [if_pos c3] at H
  have c3b0 : (a0_0 == 0)=true:=ya.mpr c3;have c3b1 : (a0_0 != 0)=false:=zX.mpr c3;clear c3;obtain rfl:=zU H
  go_enter Try.func39,Try.ntmps39
  go_wp2_with (first|((with_reducible refine zK (N:=2) rfl ?_);(try (refine yz (by rfl) ?_;dsimp only));refine zI ?hg (N:=2) ?hd (cs:=#[.int .i64 a0_0,.int .i64 a0_1,.string a0_2]) (t:=24) ?hr ?_;(case hd=>rfl);(case hg=>rfl);(case hr=>go_simp <;> rfl);intro gb381 hg w4 hbox hb;have BK381:=zh (hbox);have hH_:=cH jD hb hg;have GW381:=zh hH_.1;have GE381:=GW381;replace HB:=zh hH_.2;clear hb hbox hg hH_)|((with_reducible refine zK (N:=3) rfl ?_);(try (refine yz (by rfl) ?_;dsimp only));refine zI ?hg (N:=3) ?hd (cs:=#[.int .i64 a1]) (t:=3) ?hr ?_;(case hd=>rfl);(case hg=>rfl);(case hr=>go_simp <;> rfl);intro gb382 hg w5 hbox hb;have BK382:=zh (hbox);have hH_:=cH jAk hb hg;have GW382:=zh hH_.1;have GE382:=GW382;replace HB:=zh hH_.2;have NB381_382:=zh ((jAl : gb381≠gb382));have NB382_381:=zh NB381_382.out.symm;replace BK381:=zh (cD BK381.out jo hb);clear hb hbox hg hH_;have hnb6:=NB381_382.out;have hnc6:=NB382_381.out;obtain ⟨hcz7_0,hcz7_1,hcz7_2,hfz7_0,hfz7_1,hfz7_2⟩:=cB3 BK381.out))
  go_ret
  exact ⟨jG,jd⟩
 rw [if_neg c3] at H;have c3b0 : (a0_0 == 0)=false:=zY.mpr c3;have c3b1 : (a0_0 != 0)=true:=zZ.mpr c3
 by_cases c8 : a0_0=1
 ·
  rw [if_pos c8] at H
  have c8b0 : (a0_0 == 1)=true:=ya.mpr c8;have c8b1 : (a0_0 != 1)=false:=zX.mpr c8;clear c8;replace H:=zT.mp H;obtain ⟨t383,A90,H⟩:=H;have A9:=zh A90;clear A90
  by_cases c10 : t383=true
  ·
   subst c10
   rw [if_pos rfl] at H;obtain rfl:=zU H
   go_enter Try.func39,Try.ntmps39
   go_wp2_with (first|((with_reducible refine zK (N:=2) rfl ?_);(try (refine yz (by rfl) ?_;dsimp only));refine zI ?hg (N:=2) ?hd (cs:=#[.int .i64 a0_0,.int .i64 a0_1,.string a0_2]) (t:=24) ?hr ?_;(case hd=>rfl);(case hg=>rfl);(case hr=>go_simp <;> rfl);intro gb381 hg w11 hbox hb;have BK381:=zh (hbox);have hH_:=cH jD hb hg;have GW381:=zh hH_.1;have GE381:=GW381;replace HB:=zh hH_.2;clear hb hbox hg hH_)|((with_reducible refine zK (N:=3) rfl ?_);(try (refine yz (by rfl) ?_;dsimp only));refine zI ?hg (N:=3) ?hd (cs:=#[.int .i64 a1]) (t:=3) ?hr ?_;(case hd=>rfl);(case hg=>rfl);(case hr=>go_simp <;> rfl);intro gb382 hg w12 hbox hb;have BK382:=zh (hbox);have hH_:=cH jAk hb hg;have GW382:=zh hH_.1;have GE382:=GW382;replace HB:=zh hH_.2;have NB381_382:=zh ((jAl : gb381≠gb382));have NB382_381:=zh NB381_382.out.symm;replace BK381:=zh (cD BK381.out jo hb);clear hb hbox hg hH_;have hnb13:=NB381_382.out;have hnc13:=NB382_381.out;obtain ⟨hcz14_0,hcz14_1,hcz14_2,hfz14_0,hfz14_1,hfz14_2⟩:=cB3 BK381.out)|((with_reducible refine zJ (f:=21) rfl ?_);refine yj (some 18) rfl rfl Try.func21 jA rfl #[.int .i64 a0_1,.int .i64 0,.int .i64 1] rfl jB ?_;(with_reducible refine (F0j.calls  a0_1 0 1 true _ A9.out).mono ?_);rintro e w' ⟨rfl,⟨nd,rfl⟩⟩;refine ⟨_,rfl,?_⟩))
   go_ret
   exact ⟨jG,jd⟩
  replace c10:=yb.mpr c10;subst c10;rw [if_neg (show ¬ (false=true) by decide)] at H;obtain rfl:=zU H
  go_enter Try.func39,Try.ntmps39
  go_wp2_with (first|((with_reducible refine zK (N:=2) rfl ?_);(try (refine yz (by rfl) ?_;dsimp only));refine zI ?hg (N:=2) ?hd (cs:=#[.int .i64 a0_0,.int .i64 a0_1,.string a0_2]) (t:=24) ?hr ?_;(case hd=>rfl);(case hg=>rfl);(case hr=>go_simp <;> rfl);intro gb381 hg w15 hbox hb;have BK381:=zh (hbox);have hH_:=cH jD hb hg;have GW381:=zh hH_.1;have GE381:=GW381;replace HB:=zh hH_.2;clear hb hbox hg hH_)|((with_reducible refine zK (N:=3) rfl ?_);(try (refine yz (by rfl) ?_;dsimp only));refine zI ?hg (N:=3) ?hd (cs:=#[.int .i64 a1]) (t:=3) ?hr ?_;(case hd=>rfl);(case hg=>rfl);(case hr=>go_simp <;> rfl);intro gb382 hg w16 hbox hb;have BK382:=zh (hbox);have hH_:=cH jAk hb hg;have GW382:=zh hH_.1;have GE382:=GW382;replace HB:=zh hH_.2;have NB381_382:=zh ((jAl : gb381≠gb382));have NB382_381:=zh NB381_382.out.symm;replace BK381:=zh (cD BK381.out jo hb);clear hb hbox hg hH_;have hnb17:=NB381_382.out;have hnc17:=NB382_381.out;obtain ⟨hcz18_0,hcz18_1,hcz18_2,hfz18_0,hfz18_1,hfz18_2⟩:=cB3 BK381.out)|((with_reducible refine zJ (f:=21) rfl ?_);refine yj (some 18) rfl rfl Try.func21 jA rfl #[.int .i64 a0_1,.int .i64 0,.int .i64 1] rfl jB ?_;(with_reducible refine (F0j.calls  a0_1 0 1 false _ A9.out).mono ?_);rintro e w' ⟨rfl,⟨nd,rfl⟩⟩;refine ⟨_,rfl,?_⟩))
  go_ret
  exact ⟨jG,jd⟩
 rw [if_neg c8] at H;have c8b0 : (a0_0 == 1)=false:=zY.mpr c8;have c8b1 : (a0_0 != 1)=true:=zZ.mpr c8
 by_cases c19 : a0_0=2
 ·
  rw [if_pos c19] at H
  have c19b0 : (a0_0 == 2)=true:=ya.mpr c19;have c19b1 : (a0_0 != 2)=false:=zX.mpr c19;clear c19;replace H:=zT.mp H;obtain ⟨t384,A200,H⟩:=H;have A20:=zh A200;clear A200
  by_cases c21 : t384=true
  ·
   subst c21
   rw [if_pos rfl] at H;obtain rfl:=zU H
   go_enter Try.func39,Try.ntmps39
   go_wp2_with (first|((with_reducible refine zK (N:=2) rfl ?_);(try (refine yz (by rfl) ?_;dsimp only));refine zI ?hg (N:=2) ?hd (cs:=#[.int .i64 a0_0,.int .i64 a0_1,.string a0_2]) (t:=24) ?hr ?_;(case hd=>rfl);(case hg=>rfl);(case hr=>go_simp <;> rfl);intro gb381 hg w22 hbox hb;have BK381:=zh (hbox);have hH_:=cH jD hb hg;have GW381:=zh hH_.1;have GE381:=GW381;replace HB:=zh hH_.2;clear hb hbox hg hH_)|((with_reducible refine zK (N:=3) rfl ?_);(try (refine yz (by rfl) ?_;dsimp only));refine zI ?hg (N:=3) ?hd (cs:=#[.int .i64 a1]) (t:=3) ?hr ?_;(case hd=>rfl);(case hg=>rfl);(case hr=>go_simp <;> rfl);intro gb382 hg w23 hbox hb;have BK382:=zh (hbox);have hH_:=cH jAk hb hg;have GW382:=zh hH_.1;have GE382:=GW382;replace HB:=zh hH_.2;have NB381_382:=zh ((jAl : gb381≠gb382));have NB382_381:=zh NB381_382.out.symm;replace BK381:=zh (cD BK381.out jo hb);clear hb hbox hg hH_;have hnb24:=NB381_382.out;have hnc24:=NB382_381.out;obtain ⟨hcz25_0,hcz25_1,hcz25_2,hfz25_0,hfz25_1,hfz25_2⟩:=cB3 BK381.out)|((with_reducible refine zJ (f:=59) rfl ?_);refine yj (some 28) rfl rfl Try.func59 jA rfl #[.int .i64 a0_1] rfl jB ?_;(with_reducible refine (F13.calls  a0_1 true _ A20.out).mono ?_);rintro e w' ⟨rfl,⟨nd,rfl⟩⟩;refine ⟨_,rfl,?_⟩))
   go_ret
   exact ⟨jG,jd⟩
  replace c21:=yb.mpr c21;subst c21;rw [if_neg (show ¬ (false=true) by decide)] at H;obtain rfl:=zU H
  go_enter Try.func39,Try.ntmps39
  go_wp2_with (first|((with_reducible refine zK (N:=2) rfl ?_);(try (refine yz (by rfl) ?_;dsimp only));refine zI ?hg (N:=2) ?hd (cs:=#[.int .i64 a0_0,.int .i64 a0_1,.string a0_2]) (t:=24) ?hr ?_;(case hd=>rfl);(case hg=>rfl);(case hr=>go_simp <;> rfl);intro gb381 hg w26 hbox hb;have BK381:=zh (hbox);have hH_:=cH jD hb hg;have GW381:=zh hH_.1;have GE381:=GW381;replace HB:=zh hH_.2;clear hb hbox hg hH_)|((with_reducible refine zK (N:=3) rfl ?_);(try (refine yz (by rfl) ?_;dsimp only));refine zI ?hg (N:=3) ?hd (cs:=#[.int .i64 a1]) (t:=3) ?hr ?_;(case hd=>rfl);(case hg=>rfl);(case hr=>go_simp <;> rfl);intro gb382 hg w27 hbox hb;have BK382:=zh (hbox);have hH_:=cH jAk hb hg;have GW382:=zh hH_.1;have GE382:=GW382;replace HB:=zh hH_.2;have NB381_382:=zh ((jAl : gb381≠gb382));have NB382_381:=zh NB381_382.out.symm;replace BK381:=zh (cD BK381.out jo hb);clear hb hbox hg hH_;have hnb28:=NB381_382.out;have hnc28:=NB382_381.out;obtain ⟨hcz29_0,hcz29_1,hcz29_2,hfz29_0,hfz29_1,hfz29_2⟩:=cB3 BK381.out)|((with_reducible refine zJ (f:=59) rfl ?_);refine yj (some 28) rfl rfl Try.func59 jA rfl #[.int .i64 a0_1] rfl jB ?_;(with_reducible refine (F13.calls  a0_1 false _ A20.out).mono ?_);rintro e w' ⟨rfl,⟨nd,rfl⟩⟩;refine ⟨_,rfl,?_⟩))
  go_ret
  exact ⟨jG,jd⟩
 rw [if_neg c19] at H;have c19b0 : (a0_0 == 2)=false:=zY.mpr c19;have c19b1 : (a0_0 != 2)=true:=zZ.mpr c19
 by_cases c30 : a0_0=3
 ·
  rw [if_pos c30] at H
  have c30b0 : (a0_0 == 3)=true:=ya.mpr c30;have c30b1 : (a0_0 != 3)=false:=zX.mpr c30;clear c30
  by_cases c31 : a0_1=0
  ·
   rw [if_pos c31] at H
   have c31b0 : (a0_1 == 0)=true:=ya.mpr c31;have c31b1 : (a0_1 != 0)=false:=zX.mpr c31;clear c31;obtain rfl:=zU H
   go_enter Try.func39,Try.ntmps39
   go_wp2_with (first|((with_reducible refine zK (N:=2) rfl ?_);(try (refine yz (by rfl) ?_;dsimp only));refine zI ?hg (N:=2) ?hd (cs:=#[.int .i64 a0_0,.int .i64 a0_1,.string a0_2]) (t:=24) ?hr ?_;(case hd=>rfl);(case hg=>rfl);(case hr=>go_simp <;> rfl);intro gb381 hg w32 hbox hb;have BK381:=zh (hbox);have hH_:=cH jD hb hg;have GW381:=zh hH_.1;have GE381:=GW381;replace HB:=zh hH_.2;clear hb hbox hg hH_)|((with_reducible refine zK (N:=3) rfl ?_);(try (refine yz (by rfl) ?_;dsimp only));refine zI ?hg (N:=3) ?hd (cs:=#[.int .i64 a1]) (t:=3) ?hr ?_;(case hd=>rfl);(case hg=>rfl);(case hr=>go_simp <;> rfl);intro gb382 hg w33 hbox hb;have BK382:=zh (hbox);have hH_:=cH jAk hb hg;have GW382:=zh hH_.1;have GE382:=GW382;replace HB:=zh hH_.2;have NB381_382:=zh ((jAl : gb381≠gb382));have NB382_381:=zh NB381_382.out.symm;replace BK381:=zh (cD BK381.out jo hb);clear hb hbox hg hH_;have hnb34:=NB381_382.out;have hnc34:=NB382_381.out;obtain ⟨hcz35_0,hcz35_1,hcz35_2,hfz35_0,hfz35_1,hfz35_2⟩:=cB3 BK381.out))
   go_ret
   exact ⟨jG,jd⟩
  rw [if_neg c31] at H;have c31b0 : (a0_1 == 0)=false:=zY.mpr c31;have c31b1 : (a0_1 != 0)=true:=zZ.mpr c31;obtain rfl:=zU H
  go_enter Try.func39,Try.ntmps39
  go_wp2_with (first|((with_reducible refine zK (N:=2) rfl ?_);(try (refine yz (by rfl) ?_;dsimp only));refine zI ?hg (N:=2) ?hd (cs:=#[.int .i64 a0_0,.int .i64 a0_1,.string a0_2]) (t:=24) ?hr ?_;(case hd=>rfl);(case hg=>rfl);(case hr=>go_simp <;> rfl);intro gb381 hg w36 hbox hb;have BK381:=zh (hbox);have hH_:=cH jD hb hg;have GW381:=zh hH_.1;have GE381:=GW381;replace HB:=zh hH_.2;clear hb hbox hg hH_)|((with_reducible refine zK (N:=3) rfl ?_);(try (refine yz (by rfl) ?_;dsimp only));refine zI ?hg (N:=3) ?hd (cs:=#[.int .i64 a1]) (t:=3) ?hr ?_;(case hd=>rfl);(case hg=>rfl);(case hr=>go_simp <;> rfl);intro gb382 hg w37 hbox hb;have BK382:=zh (hbox);have hH_:=cH jAk hb hg;have GW382:=zh hH_.1;have GE382:=GW382;replace HB:=zh hH_.2;have NB381_382:=zh ((jAl : gb381≠gb382));have NB382_381:=zh NB381_382.out.symm;replace BK381:=zh (cD BK381.out jo hb);clear hb hbox hg hH_;have hnb38:=NB381_382.out;have hnc38:=NB382_381.out;obtain ⟨hcz39_0,hcz39_1,hcz39_2,hfz39_0,hfz39_1,hfz39_2⟩:=cB3 BK381.out))
  go_ret
  exact ⟨jG,jd⟩
 rw [if_neg c30] at H;have c30b0 : (a0_0 == 3)=false:=zY.mpr c30;have c30b1 : (a0_0 != 3)=true:=zZ.mpr c30;have HC40:=zh H;clear H
 go_enter Try.func39,Try.ntmps39
 go_upto_if 45 with (first|((with_reducible refine zK (N:=2) rfl ?_);(try (refine yz (by rfl) ?_;dsimp only));refine zI ?hg (N:=2) ?hd (cs:=#[.int .i64 a0_0,.int .i64 a0_1,.string a0_2]) (t:=24) ?hr ?_;(case hd=>rfl);(case hg=>rfl);(case hr=>go_simp <;> rfl);intro gb381 hg w41 hbox hb;have BK381:=zh (hbox);have hH_:=cH jD hb hg;have GW381:=zh hH_.1;have GE381:=GW381;replace HB:=zh hH_.2;clear hb hbox hg hH_)|((with_reducible refine zK (N:=3) rfl ?_);(try (refine yz (by rfl) ?_;dsimp only));refine zI ?hg (N:=3) ?hd (cs:=#[.int .i64 a1]) (t:=3) ?hr ?_;(case hd=>rfl);(case hg=>rfl);(case hr=>go_simp <;> rfl);intro gb382 hg w42 hbox hb;have BK382:=zh (hbox);have hH_:=cH jAk hb hg;have GW382:=zh hH_.1;have GE382:=GW382;replace HB:=zh hH_.2;have NB381_382:=zh ((jAl : gb381≠gb382));have NB382_381:=zh NB381_382.out.symm;replace BK381:=zh (cD BK381.out jo hb);clear hb hbox hg hH_;have hnb43:=NB381_382.out;have hnc43:=NB382_381.out;obtain ⟨hcz44_0,hcz44_1,hcz44_2,hfz44_0,hfz44_1,hfz44_2⟩:=cB3 BK381.out))
 (try simp only [Act.put,zi,zj,zk])
 go_cut [45] (fun v45 wc => ∃ (kq : Nat) (x45_39 : Bool),v45 = .bool x45_39∧Aside0 (Fb.j0 kq x45_39 a0_0 a0_1 a0_2 a1=some r)∧Aside0 (kq≤k)∧Aside0 (wc.heap[gb381]? = some (.cells #[.int .i64 a0_0,.int .i64 a0_1,.string a0_2] 24 (0,0)))∧Aside0 (wc.heap[gb382]? = some (.cells #[.int .i64 a1] 3 (0,0)))∧Aside0 (Below w.heap.size w wc))
 case first =>
  have H:=HC40.out;clear HC40
  by_cases c45 : a0_0=4
  ·
   rw [if_pos c45] at H
   have c45b0 : (a0_0 == 4)=true:=ya.mpr c45;have c45b1 : (a0_0 != 4)=false:=zX.mpr c45;clear c45;(first|rw [c45b0]|(simp only [zG,zH];rw [c45b0])|skip);have H':=zh H;clear H
   go_wp2
   go_meet
   case rel=>exact ⟨_,((a0_0 == 4)),jE,H',⟨jg⟩,⟨jo⟩,⟨jAm⟩,⟨jd⟩⟩
  rw [if_neg c45] at H;have c45b0 : (a0_0 == 4)=false:=zY.mpr c45;have c45b1 : (a0_0 != 4)=true:=zZ.mpr c45;(first|rw [c45b0]|(simp only [zG,zH];rw [c45b0])|skip);have H':=zh H;clear H
  go_wp2
  go_meet
  case rel=>exact ⟨_,((a0_0 == 5)),jE,H',⟨jg⟩,⟨jo⟩,⟨jAm⟩,⟨jd⟩⟩
 case rest =>
  clear HC40
  try clear c1 c2
  try clear p2
  try clear c3 c3b0 c3b1 c4 c5 c6 c8 c8b0 c8b1 c10 c13 c17 c19 c19b0 c19b1 c21 c24 c28 c30 c30b0 c30b1 c31 c31b0 c31b1 c34 c38 c39 c43 c45 c45b0 c45b1
  try clear hcz14_0 hcz14_1 hcz14_2
  try clear hcz18_0 hcz18_1 hcz18_2
  try clear hcz25_0 hcz25_1 hcz25_2
  try clear hcz29_0 hcz29_1 hcz29_2
  try clear hcz35_0 hcz35_1 hcz35_2
  try clear hcz39_0 hcz39_1 hcz39_2
  try clear hcz44_0 hcz44_1 hcz44_2
  try clear hcz7_0 hcz7_1 hcz7_2
  try clear hfz14_0 hfz14_1 hfz14_2
  try clear hfz18_0 hfz18_1 hfz18_2
  try clear hfz25_0 hfz25_1 hfz25_2
  try clear hfz29_0 hfz29_1 hfz29_2
  try clear hfz35_0 hfz35_1 hfz35_2
  try clear hfz39_0 hfz39_1 hfz39_2
  try clear hfz44_0 hfz44_1 hfz44_2
  try clear hfz7_0 hfz7_1 hfz7_2
  obtain ⟨kq,x45_39,rfl,HA,HJ39,BK381,BK382,HB⟩:=hcut
  cases kq with
  | zero=>exact absurd HA.out (by simp [Fb.j0])
  | succ kj39 =>
   have H:=HA.out;clear HA;simp only [Fb.j0] at H
   by_cases c46 : x45_39=true
   ·
    subst c46
    rw [if_pos rfl] at H;replace H:=zT.mp H;obtain ⟨⟨t385,t388⟩,A470,H⟩:=H;have A47:=zh A470;clear A470
    by_cases c48 : a0_1=0
    ·
     rw [if_pos c48] at H
     have c48b0 : (a0_1 == 0)=true:=ya.mpr c48;have c48b1 : (a0_1 != 0)=false:=zX.mpr c48;clear c48
     by_cases c49 : (a0_2.size : Int)≤300
     ·
      rw [if_pos c49] at H
      have c49b0 : decide ((a0_2.size : Int)≤300)=true:=decide_eq_true c49;have c49b1 : decide (a0_2.size≤300)=true:=decide_eq_true jH;clear c49
      by_cases c50 : a1 > 0
      ·
       rw [if_pos c50] at H
       have c50b0 : decide (0<a1)=true:=decide_eq_true c50;clear c50
       by_cases c51 : t388=true
       ·
        subst c51
        rw [if_pos rfl] at H;replace H:=zT.mp H;obtain ⟨t389,A520,H⟩:=H;have A52:=zh A520;clear A520;obtain rfl:=zU H;have hnb53:=NB381_382.out;have hnc53:=NB382_381.out;obtain ⟨hcz54_0,hcz54_1,hcz54_2,hfz54_0,hfz54_1,hfz54_2⟩:=cB3 BK381.out
        go_wp2_with (first|((with_reducible refine zJ (f:=60) rfl ?_);refine yj (some 50) rfl rfl Try.func60 jA rfl #[.agg #[.int .i64 a0_0,.int .i64 a0_1,.string a0_2]] rfl jB ?_;(with_reducible refine (Fc.calls kj39  a0_0 a0_1 a0_2 t385 true _ A47.out).mono ?_);rintro e w55 ⟨v386,rfl,ho0,hb⟩;refine ⟨_,rfl,?_⟩;have HO387:=zh (yy (Kd.R_newB ho0 (g:=gb381) (o:=.cells #[.int .i64 a0_0,.int .i64 a0_1,.string a0_2] 24 (0,0)) jo) (zB jd));replace BK381:=zh (cD BK381.out jo hb);replace BK382:=zh (cD BK382.out jAm hb);replace HB:=zh (zC jd hb);(try clear hb);(try clear hb2);(try clear hk);(try clear hi);(try clear ho0);obtain ⟨hcz56_0,hcz56_1,hcz56_2,hfz56_0,hfz56_1,hfz56_2⟩:=cB3 BK381.out;obtain ⟨hcz57_0,hfz57_0⟩:=cB1 BK382.out;obtain ⟨Ao58,co58,eo58⟩:=yk HO387.out;subst eo58)|(go_at_call 29;(with_reducible refine (Fk.calls kj39 (Fb.f kj39) (ih kj39 (by have:=HJ39.out;omega)) _ _ t385 gb382 a1 t389 _ ?side1 ?side2 ?side3 A52.out).mono ?_);(case side1=>repeat (first|exact (yh HO387.out).2.2|(with_reducible refine Kd.C_alloc ?_ _)|(with_reducible refine Kd.C_drewN ?_ _)|(with_reducible refine Kd.C_drew ?_)));(case side2=>exact (yh HO387.out).2.1);(case side3=>(with_reducible repeat first|apply ze|apply zf|apply zg);exact BK382.out);rintro e w59 ⟨rfl,hb⟩;replace HO387:=zh (yg (by (with_reducible repeat (first|apply zm|apply zn|apply zo));exact HO387.out) hb);replace BK381:=zh (cD BK381.out jo hb);replace BK382:=zh (cD BK382.out jAm hb);replace HB:=zh (zC jd hb);(try clear hb);(try clear hb2);(try clear hk);(try clear hi)))
        go_ret
        exact ⟨jG,jd⟩
       replace c51:=yb.mpr c51;subst c51;rw [if_neg (show ¬ (false=true) by decide)] at H;obtain rfl:=zU H;have hnb60:=NB381_382.out;have hnc60:=NB382_381.out;obtain ⟨hcz61_0,hcz61_1,hcz61_2,hfz61_0,hfz61_1,hfz61_2⟩:=cB3 BK381.out
       go_wp2_with (first|((with_reducible refine zJ (f:=60) rfl ?_);refine yj (some 50) rfl rfl Try.func60 jA rfl #[.agg #[.int .i64 a0_0,.int .i64 a0_1,.string a0_2]] rfl jB ?_;(with_reducible refine (Fc.calls kj39  a0_0 a0_1 a0_2 t385 false _ A47.out).mono ?_);rintro e w62 ⟨v386,rfl,ho0,hb⟩;refine ⟨_,rfl,?_⟩;have HO387:=zh (yy (Kd.R_newB ho0 (g:=gb381) (o:=.cells #[.int .i64 a0_0,.int .i64 a0_1,.string a0_2] 24 (0,0)) jo) (zB jd));replace BK381:=zh (cD BK381.out jo hb);replace BK382:=zh (cD BK382.out jAm hb);replace HB:=zh (zC jd hb);(try clear hb);(try clear hb2);(try clear hk);(try clear hi);(try clear ho0);obtain ⟨hcz63_0,hcz63_1,hcz63_2,hfz63_0,hfz63_1,hfz63_2⟩:=cB3 BK381.out;obtain ⟨hcz64_0,hfz64_0⟩:=cB1 BK382.out))
       go_ret
       exact ⟨jG,jd⟩
      rw [if_neg c50] at H;have c50b0 : decide (0<a1)=false:=decide_eq_false c50;clear c50;obtain rfl:=zU H;have hnb65:=NB381_382.out;have hnc65:=NB382_381.out;obtain ⟨hcz66_0,hcz66_1,hcz66_2,hfz66_0,hfz66_1,hfz66_2⟩:=cB3 BK381.out
      go_wp2_with (first|((with_reducible refine zJ (f:=60) rfl ?_);refine yj (some 50) rfl rfl Try.func60 jA rfl #[.agg #[.int .i64 a0_0,.int .i64 a0_1,.string a0_2]] rfl jB ?_;(with_reducible refine (Fc.calls kj39  a0_0 a0_1 a0_2 t385 t388 _ A47.out).mono ?_);rintro e w67 ⟨v386,rfl,ho0,hb⟩;refine ⟨_,rfl,?_⟩;have HO387:=zh (yy (Kd.R_newB ho0 (g:=gb381) (o:=.cells #[.int .i64 a0_0,.int .i64 a0_1,.string a0_2] 24 (0,0)) jo) (zB jd));replace BK381:=zh (cD BK381.out jo hb);replace BK382:=zh (cD BK382.out jAm hb);replace HB:=zh (zC jd hb);(try clear hb);(try clear hb2);(try clear hk);(try clear hi);(try clear ho0);obtain ⟨hcz68_0,hcz68_1,hcz68_2,hfz68_0,hfz68_1,hfz68_2⟩:=cB3 BK381.out;obtain ⟨hcz69_0,hfz69_0⟩:=cB1 BK382.out))
      go_ret
      exact ⟨jG,jd⟩
     rw [if_neg c49] at H;have c49b0 : decide ((a0_2.size : Int)≤300)=false:=decide_eq_false c49;have c49b1 : decide (a0_2.size≤300)=false:=decide_eq_false jH;clear c49;obtain rfl:=zU H;have hnb70:=NB381_382.out;have hnc70:=NB382_381.out;obtain ⟨hcz71_0,hcz71_1,hcz71_2,hfz71_0,hfz71_1,hfz71_2⟩:=cB3 BK381.out
     go_wp2_with (first|((with_reducible refine zJ (f:=60) rfl ?_);refine yj (some 50) rfl rfl Try.func60 jA rfl #[.agg #[.int .i64 a0_0,.int .i64 a0_1,.string a0_2]] rfl jB ?_;(with_reducible refine (Fc.calls kj39  a0_0 a0_1 a0_2 t385 t388 _ A47.out).mono ?_);rintro e w72 ⟨v386,rfl,ho0,hb⟩;refine ⟨_,rfl,?_⟩;have HO387:=zh (yy (Kd.R_newB ho0 (g:=gb381) (o:=.cells #[.int .i64 a0_0,.int .i64 a0_1,.string a0_2] 24 (0,0)) jo) (zB jd));replace BK381:=zh (cD BK381.out jo hb);replace BK382:=zh (cD BK382.out jAm hb);replace HB:=zh (zC jd hb);(try clear hb);(try clear hb2);(try clear hk);(try clear hi);(try clear ho0);obtain ⟨hcz73_0,hcz73_1,hcz73_2,hfz73_0,hfz73_1,hfz73_2⟩:=cB3 BK381.out))
     go_ret
     exact ⟨jG,jd⟩
    rw [if_neg c48] at H;have c48b0 : (a0_1 == 0)=false:=zY.mpr c48;have c48b1 : (a0_1 != 0)=true:=zZ.mpr c48;obtain rfl:=zU H;have hnb74:=NB381_382.out;have hnc74:=NB382_381.out;obtain ⟨hcz75_0,hcz75_1,hcz75_2,hfz75_0,hfz75_1,hfz75_2⟩:=cB3 BK381.out
    go_wp2_with (first|((with_reducible refine zJ (f:=60) rfl ?_);refine yj (some 50) rfl rfl Try.func60 jA rfl #[.agg #[.int .i64 a0_0,.int .i64 a0_1,.string a0_2]] rfl jB ?_;(with_reducible refine (Fc.calls kj39  a0_0 a0_1 a0_2 t385 t388 _ A47.out).mono ?_);rintro e w76 ⟨v386,rfl,ho0,hb⟩;refine ⟨_,rfl,?_⟩;have HO387:=zh (yy (Kd.R_newB ho0 (g:=gb381) (o:=.cells #[.int .i64 a0_0,.int .i64 a0_1,.string a0_2] 24 (0,0)) jo) (zB jd));replace BK381:=zh (cD BK381.out jo hb);replace BK382:=zh (cD BK382.out jAm hb);replace HB:=zh (zC jd hb);(try clear hb);(try clear hb2);(try clear hk);(try clear hi);(try clear ho0);obtain ⟨hcz77_0,hcz77_1,hcz77_2,hfz77_0,hfz77_1,hfz77_2⟩:=cB3 BK381.out))
    go_ret
    exact ⟨jG,jd⟩
   replace c46:=yb.mpr c46;subst c46;rw [if_neg (show ¬ (false=true) by decide)] at H;obtain rfl:=zU H
   go_wp2
   go_ret
   exact ⟨jG,jd⟩

end Go.Proofs.Ytdjnplkpahgnmaa.Q
end
section
namespace Go.Proofs.Ytdjnplkpahgnmaa.Q
open Go.RowKit Go.Proofs.YtdjnplkpahgnmaaW.PrintWords Go.Proofs.YtdjnplkpahgnmaaW.PrintLast Go.Proofs.YtdjnplkpahgnmaaW.PrintMore
attribute [local go_sem] max2_int min2_int max_two min_two max_three min_three max_four min_four max2_str min2_str str_geq str_gtr str_leq
set_option linter.unusedVariables false
set_option linter.unusedSimpArgs false

def F0o.f (k : Nat) (a0_0 : Int) (a0_1 : Int) (a0_2 : ByteArray) : Option (Bool):=(Fb.f k a0_0 a0_1 a0_2 5).bind fun t391=>(some t391)
theorem F0o.mono : ∀ a0 a1 a2 k,LeO (F0o.f k a0 a1 a2) (F0o.f (k+1) a0 a1 a2):=by
 intro a0 a1 a2 k;unfold F0o.f
 repeat' first|(with_reducible first|exact Fb.mono _ _ _ _ _|exact zQ _|exact zN _|refine zP ?_ ?_|refine zO ?_ (fun _=>?_))|refine zP ?_ ?_|refine zO ?_ (fun _=>?_)
set_option maxHeartbeats 8000000 in
set_option maxRecDepth 100000 in
theorem F0o.calls (k : Nat) (a0_0 : Int) (a0_1 : Int) (a0_2 : ByteArray) (r : Bool) (w : World) (h : F0o.f k a0_0 a0_1 a0_2=some r) :
  Calls Try.prog 14 #[.agg #[.int .i64 a0_0,.int .i64 a0_1,.string a0_2]] w fun e w' => e = .returned (.bool r)∧Below w.heap.size w w':=by
 have hu24:=Try.underlying24;have HB:=zh (Below.refl w.heap.size w);have H : ((Fb.f k a0_0 a0_1 a0_2 5).bind fun t391=>(some t391))=some r:=h;clear h;replace H:=zT.mp H;obtain ⟨t391,A20,H⟩:=H;have A2:=zh A20;clear A20;obtain rfl:=zU H
 go_enter Try.func14,Try.ntmps14
 go_wp2_with (first|((with_reducible refine zK (N:=1) rfl ?_);refine zI ?hg (N:=1) ?hd (cs:=#[.int .i64 a0_0,.int .i64 a0_1,.string a0_2]) (t:=24) ?hr ?_;(case hd=>rfl);(case hg=>rfl);(case hr=>go_simp <;> rfl);intro gb390 hg w3 hbox hb;have BK390:=zh (hbox);have hH_:=cH jD hb hg;have GW390:=zh hH_.1;have GE390:=GW390;replace HB:=zh hH_.2;clear hb hbox hg hH_;obtain ⟨hcz4_0,hcz4_1,hcz4_2,hfz4_0,hfz4_1,hfz4_2⟩:=cB3 BK390.out)|((with_reducible refine zJ (f:=39) rfl ?_);refine yj (some 4) rfl rfl Try.func39 jA rfl #[.agg #[.int .i64 a0_0,.int .i64 a0_1,.string a0_2],.int .i64 5] rfl jB ?_;(with_reducible refine (Fb.calls k  a0_0 a0_1 a0_2 5 t391 _ A2.out).mono ?_);rintro e w5 ⟨rfl,hb⟩;refine ⟨_,rfl,?_⟩;replace BK390:=zh (cD BK390.out (by (with_reducible repeat first|apply ze|apply zf|apply zg);exact BK390.out) hb);replace HB:=zh (zC jCq hb);(try clear hb);(try clear hb2);(try clear hk);(try clear hi)))
 go_ret
 exact ⟨jG,jCq⟩


def F0t.f (k : Nat) (a0_0 : Int) (a0_1 : Int) (a0_2 : ByteArray) : Option (Bool):=(F0o.f k a0_0 a0_1 a0_2).bind fun t393=>(some (!t393))
theorem F0t.mono : ∀ a0 a1 a2 k,LeO (F0t.f k a0 a1 a2) (F0t.f (k+1) a0 a1 a2):=by
 intro a0 a1 a2 k;unfold F0t.f
 repeat' first|(with_reducible first|exact F0o.mono _ _ _ _|exact zQ _|exact zN _|refine zP ?_ ?_|refine zO ?_ (fun _=>?_))|refine zP ?_ ?_|refine zO ?_ (fun _=>?_)
set_option maxHeartbeats 8000000 in
set_option maxRecDepth 100000 in
theorem F0t.calls (k : Nat) (a0_0 : Int) (a0_1 : Int) (a0_2 : ByteArray) (r : Bool) (w : World) (h : F0t.f k a0_0 a0_1 a0_2=some r) :
  Calls Try.prog 30 #[.agg #[.int .i64 a0_0,.int .i64 a0_1,.string a0_2]] w fun e w' => e = .returned (.bool r)∧Below w.heap.size w w':=by
 have hu24:=Try.underlying24;have HB:=zh (Below.refl w.heap.size w);have H : ((F0o.f k a0_0 a0_1 a0_2).bind fun t393=>(some (!t393)))=some r:=h;clear h;replace H:=zT.mp H;obtain ⟨t393,A20,H⟩:=H;have A2:=zh A20;clear A20;obtain rfl:=zU H
 go_enter Try.func30,Try.ntmps30
 go_wp2_with (first|((with_reducible refine zK (N:=1) rfl ?_);refine zI ?hg (N:=1) ?hd (cs:=#[.int .i64 a0_0,.int .i64 a0_1,.string a0_2]) (t:=24) ?hr ?_;(case hd=>rfl);(case hg=>rfl);(case hr=>go_simp <;> rfl);intro gb392 hg w3 hbox hb;have BK392:=zh (hbox);have hH_:=cH jD hb hg;have GW392:=zh hH_.1;have GE392:=GW392;replace HB:=zh hH_.2;clear hb hbox hg hH_;obtain ⟨hcz4_0,hcz4_1,hcz4_2,hfz4_0,hfz4_1,hfz4_2⟩:=cB3 BK392.out)|((with_reducible refine zJ (f:=14) rfl ?_);refine yj (some 4) rfl rfl Try.func14 jA rfl #[.agg #[.int .i64 a0_0,.int .i64 a0_1,.string a0_2]] rfl jB ?_;(with_reducible refine (F0o.calls k  a0_0 a0_1 a0_2 t393 _ A2.out).mono ?_);rintro e w5 ⟨rfl,hb⟩;refine ⟨_,rfl,?_⟩;replace BK392:=zh (cD BK392.out (by (with_reducible repeat first|apply ze|apply zf|apply zg);exact BK392.out) hb);replace HB:=zh (zC jCr hb);(try clear hb);(try clear hb2);(try clear hk);(try clear hi)))
 go_ret
 exact ⟨jG,jCr⟩


def F03.l0 : Nat→List (S24)→Int→Int→Option (Int)
 | 0,_,_,_=>none
 | k+1,x0,x7,x8=>if x8<x7 then (if 0≤x8 then (if x8<(x0.length : Int) then ((F0t.f k ((rd_T24 x0 x8).f0) ((rd_T24 x0 x8).f1) ((rd_T24 x0 x8).f2)).bind fun t395=>(if t395=true then (some x8) else (F03.l0 k x0 x7 (wrap64 (x8+1))))) else (none)) else (none)) else (some (-1))
def F03.f (k : Nat) (l0 : List (S24))  : Option (Int):=F03.l0 k l0 (l0.length : Int) 0
theorem F03.mono_l : ∀ k,(∀ y0 y1 y2,LeO (F03.l0 k y0 y1 y2) (F03.l0 (k+1) y0 y1 y2))
 | 0=>fun _ _ _ r h=>by simp [F03.l0] at h
 | k+1=>by
  have ih0:=F03.mono_l k;intro y0 y1 y2;unfold F03.l0
  repeat' first|(with_reducible first|exact ih0 _ _ _|exact F0t.mono _ _ _ _|exact zQ _|exact zN _|refine zP ?_ ?_|refine zO ?_ (fun _=>?_))|refine zP ?_ ?_|refine zO ?_ (fun _=>?_)
theorem F03.mono : ∀ a0 k,LeO (F03.f k a0) (F03.f (k+1) a0):=by
 intro a0 k;have ih0:=F03.mono_l k;unfold F03.f
 repeat' first|(with_reducible first|exact ih0 _ _ _|exact F0t.mono _ _ _ _|exact zQ _|exact zN _|refine zP ?_ ?_|refine zO ?_ (fun _=>?_))|refine zP ?_ ?_|refine zO ?_ (fun _=>?_)
set_option maxHeartbeats 8000000 in
set_option maxRecDepth 100000 in
theorem F03.calls (k : Nat) (A0 : Option Addr) (c0 : Nat) (l0 : List (S24))  (r : Int) (w : World) (hr0 : Kd.C k24 w A0 l0.length l0) (hc0 : l0.length≤c0) (h : F03.f k l0=some r) :
  Calls Try.prog 55 #[.slice A0 l0.length c0,.func (.func 30) #[] #[]] w fun e w' => e = .returned (.int .i64 r)∧Below w.heap.size w w':=by
 have hu24:=Try.underlying24;have HR0:=zh hr0;have HC0:=zh hc0;clear hr0 hc0;have HB:=zh (Below.refl w.heap.size w);have H : (F03.l0 k l0 (l0.length : Int) 0)=some r:=h;clear h;have H':=zh H;clear H
 go_enter Try.func55,Try.ntmps55
 go_wp2
 go_loopg [8] k (fun kq v8 w' => ∃ (x8_1 : Int),v8 = .int .i64 x8_1∧Aside0 (F03.l0 kq l0 (l0.length : Int) x8_1=some r)∧Aside0 (kq≤k)∧Aside0 (Below w.heap.size w w'))
 case atStart=>exact ⟨(0),jE,H',⟨ye _⟩,⟨jD⟩⟩
 case round =>
  clear H'
  try clear p2
  obtain ⟨x8_1,rfl,HA,HK1,HB⟩:=hrel
  cases gk with
  | zero=>exact absurd HA.out (by simp [F03.l0])
  | succ k1 =>
   have H:=HA.out;clear HA;simp only [F03.l0] at H
   by_cases c3 : x8_1<(l0.length : Int)
   ·
    rw [if_pos c3] at H
    have c3b0 : decide (x8_1<(l0.length : Int))=true:=decide_eq_true c3;clear c3
    by_cases c4 : 0≤x8_1
    ·
     rw [if_pos c4] at H
     have c4b0 : decide (0≤x8_1)=true:=decide_eq_true c4;clear c4
     by_cases c5 : x8_1<(l0.length : Int)
     ·
      rw [if_pos c5] at H
      have c5b0 : decide (x8_1<(l0.length : Int))=true:=decide_eq_true c5;clear c5;replace H:=zT.mp H;obtain ⟨t395,A60,H⟩:=H;have A6:=zh A60;clear A60
      by_cases c7 : t395=true
      ·
       subst c7
       rw [if_pos rfl] at H;obtain rfl:=zU H;have p394 : 0≤(x8_1 : Int):=zy jF;have q394 : x8_1<(l0.length : Int):=zy jF;obtain ⟨ad394,e394,hx394_0,hx394_1,hx394_2⟩:=at_T24 HR0.out x8_1 p394 q394
       cases e394
       replace hx394_0:=(HB.out.cell (zl w _ hx394_0)).trans hx394_0;replace hx394_1:=(HB.out.cell (zl w _ hx394_1)).trans hx394_1;replace hx394_2:=(HB.out.cell (zl w _ hx394_2)).trans hx394_2;replace p394:=eq_true p394;replace q394:=eq_true q394
       go_wp2_with (first|(go_at_call 30;(with_reducible refine (F0t.calls k1  ((rd_T24 l0 x8_1).f0) ((rd_T24 l0 x8_1).f1) ((rd_T24 l0 x8_1).f2) true _ A6.out).mono ?_);rintro e w8 ⟨rfl,hb⟩;replace HB:=zh (zC jD hb);(try clear hb);(try clear hb2);(try clear hk);(try clear hi)))
       go_ret
       exact ⟨jG,jD⟩
      replace c7:=yb.mpr c7;subst c7;rw [if_neg (show ¬ (false=true) by decide)] at H;have H':=zh H;clear H;have p394 : 0≤(x8_1 : Int):=zy jF;have q394 : x8_1<(l0.length : Int):=zy jF;obtain ⟨ad394,e394,hx394_0,hx394_1,hx394_2⟩:=at_T24 HR0.out x8_1 p394 q394
      cases e394
      replace hx394_0:=(HB.out.cell (zl w _ hx394_0)).trans hx394_0;replace hx394_1:=(HB.out.cell (zl w _ hx394_1)).trans hx394_1;replace hx394_2:=(HB.out.cell (zl w _ hx394_2)).trans hx394_2;replace p394:=eq_true p394;replace q394:=eq_true q394
      go_wp2_with (first|(go_at_call 30;(with_reducible refine (F0t.calls k1  ((rd_T24 l0 x8_1).f0) ((rd_T24 l0 x8_1).f1) ((rd_T24 l0 x8_1).f2) false _ A6.out).mono ?_);rintro e w9 ⟨rfl,hb⟩;replace HB:=zh (zC jD hb);(try clear hb);(try clear hb2);(try clear hk);(try clear hi)))
      go_roundg k1
      case measure=>have:=HK1.out;omega
      case rel=>exact ⟨(wrap64 (x8_1+1)),jE,H',⟨jN⟩,⟨jD⟩⟩
     rw [if_neg c5] at H;exact absurd H (by simp)
    rw [if_neg c4] at H;exact absurd H (by simp)
   rw [if_neg c3] at H;have c3b0 : decide (x8_1<(l0.length : Int))=false:=decide_eq_false c3;clear c3;obtain rfl:=zU H
   go_wp2
   go_ret
   exact ⟨jG,jD⟩


def Fp.f (k : Nat) (l0 : List (S24))  : Option (Bool):=(F03.f k l0).bind fun t396=>(some (decide (t396 ≥ 0)))
theorem Fp.mono : ∀ a0 k,LeO (Fp.f k a0) (Fp.f (k+1) a0):=by
 intro a0 k;unfold Fp.f
 repeat' first|(with_reducible first|exact F03.mono _ _|exact zQ _|exact zN _|refine zP ?_ ?_|refine zO ?_ (fun _=>?_))|refine zP ?_ ?_|refine zO ?_ (fun _=>?_)
set_option maxHeartbeats 8000000 in
set_option maxRecDepth 100000 in
theorem Fp.calls (k : Nat) (A0 : Option Addr) (c0 : Nat) (l0 : List (S24))  (r : Bool) (w : World) (hr0 : Kd.C k24 w A0 l0.length l0) (hc0 : l0.length≤c0) (h : Fp.f k l0=some r) :
  Calls Try.prog 29 #[.slice A0 l0.length c0,.func (.func 30) #[] #[]] w fun e w' => e = .returned (.bool r)∧Below w.heap.size w w':=by
 have HR0:=zh hr0;have HC0:=zh hc0;clear hr0 hc0;have HB:=zh (Below.refl w.heap.size w);have H : ((F03.f k l0).bind fun t396=>(some (decide (t396 ≥ 0))))=some r:=h;clear h;replace H:=zT.mp H;obtain ⟨t396,A30,H⟩:=H;have A3:=zh A30;clear A30;obtain rfl:=zU H
 go_enter Try.func29,Try.ntmps29
 go_wp2_with (first|((with_reducible refine zJ (f:=55) rfl ?_);refine yj (some 7) rfl rfl Try.func55 jA rfl #[.slice A0 l0.length c0,.func (.func 30) #[] #[]] rfl jB ?_;(with_reducible refine (F03.calls k  _ _ l0  t396 _ ?side1 ?side2 A3.out).mono ?_);(case side1=>repeat (first|exact HR0.out|(with_reducible refine Kd.C_alloc ?_ _)|(with_reducible refine Kd.C_drewN ?_ _)|(with_reducible refine Kd.C_drew ?_)));(case side2=>exact HC0.out);rintro e w4 ⟨rfl,hb⟩;refine ⟨_,rfl,?_⟩;replace HB:=zh (zC jD hb);(try clear hb);(try clear hb2);(try clear hk);(try clear hi)))
 go_ret
 exact ⟨jG,jD⟩


def F09.f (k : Nat) (l0 : List (S24)) : Option (Bool):=(Fp.f k l0).bind fun t397=>(some (!t397))
theorem F09.mono : ∀ a0 k,LeO (F09.f k a0) (F09.f (k+1) a0):=by
 intro a0 k;unfold F09.f
 repeat' first|(with_reducible first|exact Fp.mono _ _|exact zQ _|exact zN _|refine zP ?_ ?_|refine zO ?_ (fun _=>?_))|refine zP ?_ ?_|refine zO ?_ (fun _=>?_)
set_option maxHeartbeats 8000000 in
set_option maxRecDepth 100000 in
theorem F09.calls (k : Nat) (A0 : Option Addr) (c0 : Nat) (l0 : List (S24)) (r : Bool) (w : World) (hr0 : Kd.C k24 w A0 l0.length l0) (hc0 : l0.length≤c0) (h : F09.f k l0=some r) :
  Calls Try.prog 12 #[.slice A0 l0.length c0] w fun e w' => e = .returned (.bool r)∧Below w.heap.size w w':=by
 have HR0:=zh hr0;have HC0:=zh hc0;clear hr0 hc0;have HB:=zh (Below.refl w.heap.size w);have H : ((Fp.f k l0).bind fun t397=>(some (!t397)))=some r:=h;clear h;replace H:=zT.mp H;obtain ⟨t397,A20,H⟩:=H;have A2:=zh A20;clear A20;obtain rfl:=zU H
 go_enter Try.func12,Try.ntmps12
 go_wp2_with (first|((with_reducible refine zJ (f:=29) rfl ?_);refine yj (some 4) rfl rfl Try.func29 jA rfl #[.slice A0 l0.length c0,.func (.func 30) #[] #[]] rfl jB ?_;(with_reducible refine (Fp.calls k  _ _ l0  t397 _ ?side1 ?side2 A2.out).mono ?_);(case side1=>repeat (first|exact HR0.out|(with_reducible refine Kd.C_alloc ?_ _)|(with_reducible refine Kd.C_drewN ?_ _)|(with_reducible refine Kd.C_drew ?_)));(case side2=>exact HC0.out);rintro e w3 ⟨rfl,hb⟩;refine ⟨_,rfl,?_⟩;replace HB:=zh (zC jD hb);(try clear hb);(try clear hb2);(try clear hk);(try clear hi)))
 go_ret
 exact ⟨jG,jD⟩


def Fs.l0 : Nat→Int→List Int→Int→Int→Option (Int)
 | 0,_,_,_,_=>none
 | k+1,x3,x6,x7,x8=>if x8<x7 then (if 0≤x8 then (if x8<(x6.length : Int) then (if (rd x6 x8)=x3 then (Fs.l0 k x3 x6 x7 (wrap64 (x8+1))) else (some (rd x6 x8))) else (none)) else (none)) else (some x3)
def Fs.f (k : Nat) (l0 : List Int) : Option (Int):=Fs.l0 k 0 l0 (l0.length : Int) 0
theorem Fs.mono_l : ∀ k,(∀ y0 y1 y2 y3,LeO (Fs.l0 k y0 y1 y2 y3) (Fs.l0 (k+1) y0 y1 y2 y3))
 | 0=>fun _ _ _ _ r h=>by simp [Fs.l0] at h
 | k+1=>by
  have ih0:=Fs.mono_l k;intro y0 y1 y2 y3;unfold Fs.l0
  repeat' first|(with_reducible first|exact ih0 _ _ _ _|exact zQ _|exact zN _|refine zP ?_ ?_|refine zO ?_ (fun _=>?_))|refine zP ?_ ?_|refine zO ?_ (fun _=>?_)
theorem Fs.mono : ∀ a0 k,LeO (Fs.f k a0) (Fs.f (k+1) a0):=by
 intro a0 k;have ih0:=Fs.mono_l k;unfold Fs.f
 repeat' first|(with_reducible first|exact ih0 _ _ _ _|exact zQ _|exact zN _|refine zP ?_ ?_|refine zO ?_ (fun _=>?_))|refine zP ?_ ?_|refine zO ?_ (fun _=>?_)
set_option maxHeartbeats 8000000 in
set_option maxRecDepth 100000 in
theorem Fs.calls (k : Nat) (A0 : Option Addr) (c0 : Nat) (l0 : List Int) (r : Int) (w : World) (hr0 : Kd.C (Kd.int .i64) w A0 l0.length l0) (hc0 : l0.length≤c0) (h : Fs.f k l0=some r) :
  Calls Try.prog 31 #[.slice A0 l0.length c0] w fun e w' => e = .returned (.int .i64 r)∧Drawn0 w w':=by
 have HR0:=zh hr0;have HC0:=zh hc0;clear hr0 hc0;have H : (Fs.l0 k 0 l0 (l0.length : Int) 0)=some r:=h;clear h;have H':=zh H;clear H
 go_enter Try.func31,Try.ntmps31
 go_wp2
 go_loopg [8] k (fun kq v8 w' => ∃ (x8_1 : Int),v8 = .int .i64 x8_1∧Aside0 (Fs.l0 kq 0 l0 (l0.length : Int) x8_1=some r)∧Aside0 (kq≤k)∧Drawn0 w w')
 case atStart=>exact ⟨(0),jE,H',⟨ye _⟩,jJ⟩
 case round =>
  clear H';obtain ⟨x8_1,rfl,HA,HK1,⟨m1,rfl⟩⟩:=hrel
  cases gk with
  | zero=>exact absurd HA.out (by simp [Fs.l0])
  | succ k1 =>
   have H:=HA.out;clear HA;simp only [Fs.l0] at H
   by_cases c2 : x8_1<(l0.length : Int)
   ·
    rw [if_pos c2] at H
    have c2b0 : decide (x8_1<(l0.length : Int))=true:=decide_eq_true c2;clear c2
    by_cases c3 : 0≤x8_1
    ·
     rw [if_pos c3] at H
     have c3b0 : decide (0≤x8_1)=true:=decide_eq_true c3;clear c3
     by_cases c4 : x8_1<(l0.length : Int)
     ·
      rw [if_pos c4] at H
      have c4b0 : decide (x8_1<(l0.length : Int))=true:=decide_eq_true c4;clear c4
      by_cases c5 : (rd l0 x8_1)=0
      ·
       rw [if_pos c5] at H
       have c5b0 : ((rd l0 x8_1) == 0)=true:=ya.mpr c5;have c5b1 : ((rd l0 x8_1) != 0)=false:=zX.mpr c5;clear c5;have H':=zh H;clear H;have p398 : 0≤(x8_1 : Int):=zy jF;have q398 : x8_1<(l0.length : Int):=zy jF;obtain ⟨ad398,e398,hx398_0⟩:=Kd.at_int HR0.out x8_1 p398 q398
       cases e398
       replace p398:=eq_true p398;replace q398:=eq_true q398
       go_wp2
       go_roundg k1
       case measure=>have:=HK1.out;omega
       case rel=>exact ⟨(wrap64 (x8_1+1)),jE,H',⟨jN⟩,jJ⟩
      rw [if_neg c5] at H;have c5b0 : ((rd l0 x8_1) == 0)=false:=zY.mpr c5;have c5b1 : ((rd l0 x8_1) != 0)=true:=zZ.mpr c5;obtain rfl:=zU H;have p398 : 0≤(x8_1 : Int):=zy jF;have q398 : x8_1<(l0.length : Int):=zy jF;obtain ⟨ad398,e398,hx398_0⟩:=Kd.at_int HR0.out x8_1 p398 q398
      cases e398
      replace p398:=eq_true p398;replace q398:=eq_true q398
      go_wp2
      go_ret
      exact ⟨jE,jJ⟩
     rw [if_neg c4] at H;exact absurd H (by simp)
    rw [if_neg c3] at H;exact absurd H (by simp)
   rw [if_neg c2] at H;have c2b0 : decide (x8_1<(l0.length : Int))=false:=decide_eq_false c2;clear c2;obtain rfl:=zU H
   go_wp2
   go_ret
   exact ⟨jE,jJ⟩


def F0i.f (a0 : Int) : Option (Bool):=some (a0 != a0)
set_option maxHeartbeats 8000000 in
set_option maxRecDepth 100000 in
theorem F0i.calls (a0 : Int) (r : Bool) (w : World) (h : F0i.f a0=some r) :
  Calls Try.prog 56 #[.int .i64 a0] w fun e w' => e = .returned (.bool r)∧Drawn0 w w':=by
 have H : (some (a0 != a0))=some r:=h;clear h;obtain rfl:=zU H
 go_enter Try.func56,Try.ntmps56
 go_wp2
 go_ret
 exact ⟨jE,jJ⟩


def F0n.f (a0 : Int) (a1 : Int) : Option (Int):=(F0i.f a0).bind fun t399=>((F0i.f a1).bind fun t400=>(if t399=true then (if t400=true then (some 0) else (some (-1))) else (if t400=true then (some 1) else (if a0<a1 then (some (-1)) else (if a0 > a1 then (some 1) else (some 0))))))
set_option maxHeartbeats 8000000 in
set_option maxRecDepth 100000 in
theorem F0n.calls (a0 : Int) (a1 : Int) (r : Int) (w : World) (h : F0n.f a0 a1=some r) :
  Calls Try.prog 32 #[.int .i64 a0,.int .i64 a1] w fun e w' => e = .returned (.int .i64 r)∧Drawn0 w w':=by
 have H : ((F0i.f a0).bind fun t399=>((F0i.f a1).bind fun t400=>(if t399=true then (if t400=true then (some 0) else (some (-1))) else (if t400=true then (some 1) else (if a0<a1 then (some (-1)) else (if a0 > a1 then (some 1) else (some 0)))))))=some r:=h;clear h;replace H:=zT.mp H;obtain ⟨t399,A30,H⟩:=H;have A3:=zh A30;clear A30;replace H:=zT.mp H;obtain ⟨t400,A40,H⟩:=H;have A4:=zh A40;clear A40
 by_cases c5 : t399=true
 ·
  subst c5
  rw [if_pos rfl] at H
  by_cases c6 : t400=true
  ·
   subst c6
   rw [if_pos rfl] at H;obtain rfl:=zU H
   go_enter Try.func32,Try.ntmps32
   go_wp2_with (first|((with_reducible refine zJ (f:=56) rfl ?_);refine yj (some 8) rfl rfl Try.func56 jA rfl #[.int .i64 a0] rfl jB ?_;(with_reducible refine (F0i.calls  a0 true _ A3.out).mono ?_);rintro e w' ⟨rfl,⟨nd,rfl⟩⟩;refine ⟨_,rfl,?_⟩)|((with_reducible refine zJ (f:=56) rfl ?_);refine yj (some 10) rfl rfl Try.func56 jA rfl #[.int .i64 a1] rfl jB ?_;(with_reducible refine (F0i.calls  a1 true _ A4.out).mono ?_);rintro e w' ⟨rfl,⟨nd,rfl⟩⟩;refine ⟨_,rfl,?_⟩))
   go_ret
   exact ⟨jE,jJ⟩
  replace c6:=yb.mpr c6;subst c6;rw [if_neg (show ¬ (false=true) by decide)] at H;obtain rfl:=zU H
  go_enter Try.func32,Try.ntmps32
  go_wp2_with (first|((with_reducible refine zJ (f:=56) rfl ?_);refine yj (some 8) rfl rfl Try.func56 jA rfl #[.int .i64 a0] rfl jB ?_;(with_reducible refine (F0i.calls  a0 true _ A3.out).mono ?_);rintro e w' ⟨rfl,⟨nd,rfl⟩⟩;refine ⟨_,rfl,?_⟩)|((with_reducible refine zJ (f:=56) rfl ?_);refine yj (some 10) rfl rfl Try.func56 jA rfl #[.int .i64 a1] rfl jB ?_;(with_reducible refine (F0i.calls  a1 false _ A4.out).mono ?_);rintro e w' ⟨rfl,⟨nd,rfl⟩⟩;refine ⟨_,rfl,?_⟩))
  go_ret
  exact ⟨jE,jJ⟩
 replace c5:=yb.mpr c5;subst c5;rw [if_neg (show ¬ (false=true) by decide)] at H
 by_cases c7 : t400=true
 ·
  subst c7
  rw [if_pos rfl] at H;obtain rfl:=zU H
  go_enter Try.func32,Try.ntmps32
  go_wp2_with (first|((with_reducible refine zJ (f:=56) rfl ?_);refine yj (some 8) rfl rfl Try.func56 jA rfl #[.int .i64 a0] rfl jB ?_;(with_reducible refine (F0i.calls  a0 false _ A3.out).mono ?_);rintro e w' ⟨rfl,⟨nd,rfl⟩⟩;refine ⟨_,rfl,?_⟩)|((with_reducible refine zJ (f:=56) rfl ?_);refine yj (some 10) rfl rfl Try.func56 jA rfl #[.int .i64 a1] rfl jB ?_;(with_reducible refine (F0i.calls  a1 true _ A4.out).mono ?_);rintro e w' ⟨rfl,⟨nd,rfl⟩⟩;refine ⟨_,rfl,?_⟩))
  go_ret
  exact ⟨jE,jJ⟩
 replace c7:=yb.mpr c7;subst c7;rw [if_neg (show ¬ (false=true) by decide)] at H
 by_cases c8 : a0<a1
 ·
  rw [if_pos c8] at H
  have c8b0 : decide (a0<a1)=true:=decide_eq_true c8;clear c8;obtain rfl:=zU H
  go_enter Try.func32,Try.ntmps32
  go_wp2_with (first|((with_reducible refine zJ (f:=56) rfl ?_);refine yj (some 8) rfl rfl Try.func56 jA rfl #[.int .i64 a0] rfl jB ?_;(with_reducible refine (F0i.calls  a0 false _ A3.out).mono ?_);rintro e w' ⟨rfl,⟨nd,rfl⟩⟩;refine ⟨_,rfl,?_⟩)|((with_reducible refine zJ (f:=56) rfl ?_);refine yj (some 10) rfl rfl Try.func56 jA rfl #[.int .i64 a1] rfl jB ?_;(with_reducible refine (F0i.calls  a1 false _ A4.out).mono ?_);rintro e w' ⟨rfl,⟨nd,rfl⟩⟩;refine ⟨_,rfl,?_⟩))
  go_ret
  exact ⟨jE,jJ⟩
 rw [if_neg c8] at H;have c8b0 : decide (a0<a1)=false:=decide_eq_false c8;clear c8
 by_cases c9 : a0 > a1
 ·
  rw [if_pos c9] at H
  have c9b0 : decide (a1<a0)=true:=decide_eq_true c9;clear c9;obtain rfl:=zU H
  go_enter Try.func32,Try.ntmps32
  go_wp2_with (first|((with_reducible refine zJ (f:=56) rfl ?_);refine yj (some 8) rfl rfl Try.func56 jA rfl #[.int .i64 a0] rfl jB ?_;(with_reducible refine (F0i.calls  a0 false _ A3.out).mono ?_);rintro e w' ⟨rfl,⟨nd,rfl⟩⟩;refine ⟨_,rfl,?_⟩)|((with_reducible refine zJ (f:=56) rfl ?_);refine yj (some 10) rfl rfl Try.func56 jA rfl #[.int .i64 a1] rfl jB ?_;(with_reducible refine (F0i.calls  a1 false _ A4.out).mono ?_);rintro e w' ⟨rfl,⟨nd,rfl⟩⟩;refine ⟨_,rfl,?_⟩))
  go_ret
  exact ⟨jE,jJ⟩
 rw [if_neg c9] at H;have c9b0 : decide (a1<a0)=false:=decide_eq_false c9;clear c9;obtain rfl:=zU H
 go_enter Try.func32,Try.ntmps32
 go_wp2_with (first|((with_reducible refine zJ (f:=56) rfl ?_);refine yj (some 8) rfl rfl Try.func56 jA rfl #[.int .i64 a0] rfl jB ?_;(with_reducible refine (F0i.calls  a0 false _ A3.out).mono ?_);rintro e w' ⟨rfl,⟨nd,rfl⟩⟩;refine ⟨_,rfl,?_⟩)|((with_reducible refine zJ (f:=56) rfl ?_);refine yj (some 10) rfl rfl Try.func56 jA rfl #[.int .i64 a1] rfl jB ?_;(with_reducible refine (F0i.calls  a1 false _ A4.out).mono ?_);rintro e w' ⟨rfl,⟨nd,rfl⟩⟩;refine ⟨_,rfl,?_⟩))
 go_ret
 exact ⟨jE,jJ⟩


def Fw.l0 (G : Int→Int→ByteArray→Int→Int→ByteArray→Option (Int)) : Nat→List (S24)→List (S24)→List (S24)→Int→Int→Option (Int)
 | 0,_,_,_,_,_=>none
 | k+1,x0,x1,x11,x12,x13=>if x13<x12 then (if 0≤x13 then (if x13<(x11.length : Int) then (if x13 ≥ (x1.length : Int) then (some 1) else (if x13<(x1.length : Int) then ((G ((rd_T24 x11 x13).f0) ((rd_T24 x11 x13).f1) ((rd_T24 x11 x13).f2) ((rd_T24 x1 x13).f0) ((rd_T24 x1 x13).f1) ((rd_T24 x1 x13).f2)).bind fun t413=>(if t413=0 then (Fw.l0 G k x0 x1 x11 x12 (wrap64 (x13+1))) else (some t413))) else (none))) else (none)) else (none)) else (if (x0.length : Int)<(x1.length : Int) then (some (-1)) else (some 0))
def Fw.f (k : Nat) (G : Int→Int→ByteArray→Int→Int→ByteArray→Option (Int)) (l0 : List (S24)) (l1 : List (S24))  : Option (Int):=Fw.l0 G k l0 l1 l0 (l0.length : Int) 0
theorem Fw.mono_l : ∀ (G G' : Int→Int→ByteArray→Int→Int→ByteArray→Option (Int)) (hG : ∀ y0 y1 y2 y3 y4 y5,LeO (G y0 y1 y2 y3 y4 y5) (G' y0 y1 y2 y3 y4 y5)),∀ k,(∀ y0 y1 y2 y3 y4,LeO (Fw.l0 G k y0 y1 y2 y3 y4) (Fw.l0 G' (k+1) y0 y1 y2 y3 y4))
 | G,G',hG,0=>fun _ _ _ _ _ r h=>by simp [Fw.l0] at h
 | G,G',hG,k+1=>by
  have ih0:=Fw.mono_l G G' hG k;intro y0 y1 y2 y3 y4;unfold Fw.l0
  repeat' first|(with_reducible first|exact ih0 _ _ _ _ _|exact hG _ _ _ _ _ _|exact zQ _|exact zN _|refine zP ?_ ?_|refine zO ?_ (fun _=>?_))|refine zP ?_ ?_|refine zO ?_ (fun _=>?_)
theorem Fw.mono : ∀ (G G' : Int→Int→ByteArray→Int→Int→ByteArray→Option (Int)) (hG : ∀ y0 y1 y2 y3 y4 y5,LeO (G y0 y1 y2 y3 y4 y5) (G' y0 y1 y2 y3 y4 y5)),∀ a0 a1 k,LeO (Fw.f k G a0 a1) (Fw.f (k+1) G' a0 a1):=by
 intro G G' hG a0 a1 k;have ih0:=Fw.mono_l G G' hG k;unfold Fw.f
 repeat' first|(with_reducible first|exact ih0 _ _ _ _ _|exact hG _ _ _ _ _ _|exact zQ _|exact zN _|refine zP ?_ ?_|refine zO ?_ (fun _=>?_))|refine zP ?_ ?_|refine zO ?_ (fun _=>?_)
set_option maxHeartbeats 8000000 in
set_option maxRecDepth 100000 in
theorem Fw.calls (k : Nat) (G : Int→Int→ByteArray→Int→Int→ByteArray→Option (Int)) (hG : ∀ (a0_0 : Int) (a0_1 : Int) (a0_2 : ByteArray) (a1_0 : Int) (a1_1 : Int) (a1_2 : ByteArray) (r : Int) (w : World) (h : G a0_0 a0_1 a0_2 a1_0 a1_1 a1_2=some r),Calls Try.prog 13 #[.agg #[.int .i64 a0_0,.int .i64 a0_1,.string a0_2],.agg #[.int .i64 a1_0,.int .i64 a1_1,.string a1_2]] w fun e w' => e = .returned (.int .i64 r)∧Below w.heap.size w w') (A0 : Option Addr) (c0 : Nat) (l0 : List (S24)) (A1 : Option Addr) (c1 : Nat) (l1 : List (S24))  (r : Int) (w : World) (hr0 : Kd.C k24 w A0 l0.length l0) (hc0 : l0.length≤c0) (hr1 : Kd.C k24 w A1 l1.length l1) (hc1 : l1.length≤c1) (h : Fw.f k G l0 l1=some r) :
  Calls Try.prog 34 #[.slice A0 l0.length c0,.slice A1 l1.length c1,.func (.func 13) #[] #[]] w fun e w' => e = .returned (.int .i64 r)∧Below w.heap.size w w':=by
 have hu24:=Try.underlying24;have HR0:=zh hr0;have HC0:=zh hc0;clear hr0 hc0;have HR1:=zh hr1;have HC1:=zh hc1;clear hr1 hc1;have HB:=zh (Below.refl w.heap.size w);have H : (Fw.l0 G k l0 l1 l0 (l0.length : Int) 0)=some r:=h;clear h;have H':=zh H;clear H
 go_enter Try.func34,Try.ntmps34
 go_wp2
 go_loopg [13] k (fun kq v13 w' => ∃ (x13_1 : Int),v13 = .int .i64 x13_1∧Aside0 (Fw.l0 G kq l0 l1 l0 (l0.length : Int) x13_1=some r)∧Aside0 (kq≤k)∧Aside0 (Below w.heap.size w w'))
 case atStart=>exact ⟨(0),jE,H',⟨ye _⟩,⟨jD⟩⟩
 case round =>
  clear H'
  try clear c1
  try clear p2
  try clear c3
  obtain ⟨x13_1,rfl,HA,HK1,HB⟩:=hrel
  cases gk with
  | zero=>exact absurd HA.out (by simp [Fw.l0])
  | succ k1 =>
   have H:=HA.out;clear HA;simp only [Fw.l0] at H
   by_cases c4 : x13_1<(l0.length : Int)
   ·
    rw [if_pos c4] at H
    have c4b0 : decide (x13_1<(l0.length : Int))=true:=decide_eq_true c4;clear c4
    by_cases c5 : 0≤x13_1
    ·
     rw [if_pos c5] at H
     have c5b0 : decide (0≤x13_1)=true:=decide_eq_true c5;clear c5
     by_cases c6 : x13_1<(l0.length : Int)
     ·
      rw [if_pos c6] at H
      have c6b0 : decide (x13_1<(l0.length : Int))=true:=decide_eq_true c6;clear c6
      by_cases c7 : x13_1 ≥ (l1.length : Int)
      ·
       rw [if_pos c7] at H
       have c7b0 : decide ((l1.length : Int)≤x13_1)=true:=decide_eq_true c7;clear c7;obtain rfl:=zU H;have p409 : 0≤(x13_1 : Int):=zy jF;have q409 : x13_1<(l0.length : Int):=zy jF;obtain ⟨ad409,e409,hx409_0,hx409_1,hx409_2⟩:=at_T24 HR0.out x13_1 p409 q409
       cases e409
       replace hx409_0:=(HB.out.cell (zl w _ hx409_0)).trans hx409_0;replace hx409_1:=(HB.out.cell (zl w _ hx409_1)).trans hx409_1;replace hx409_2:=(HB.out.cell (zl w _ hx409_2)).trans hx409_2;replace p409:=eq_true p409;replace q409:=eq_true q409
       go_wp2_with (first|((with_reducible refine zK (N:=8) rfl ?_);refine zI ?hg (N:=8) ?hd (cs:=#[.int .i64 0,.int .i64 0,.string (⟨#[]⟩ : ByteArray)]) (t:=24) ?hr ?_;(case hd=>rfl);(case hg=>rfl);(case hr=>go_simp <;> rfl);intro gb410 hg w8 hbox hb;have BK410:=zh (hbox);have hH_:=cH jD hb hg;have GW410:=zh hH_.1;have GE410:=GW410;replace HB:=zh hH_.2;clear hb hbox hg hH_;obtain ⟨hcz9_0,hcz9_1,hcz9_2,hfz9_0,hfz9_1,hfz9_2⟩:=cB3 BK410.out))
       go_ret
       exact ⟨jG,jA7⟩
      rw [if_neg c7] at H;have c7b0 : decide ((l1.length : Int)≤x13_1)=false:=decide_eq_false c7;clear c7
      by_cases c10 : x13_1<(l1.length : Int)
      ·
       rw [if_pos c10] at H
       have c10b0 : decide (x13_1<(l1.length : Int))=true:=decide_eq_true c10;clear c10;replace H:=zT.mp H;obtain ⟨t413,A110,H⟩:=H;have A11:=zh A110;clear A110
       by_cases c12 : t413=0
       ·
        rw [if_pos c12] at H
        have c12b0 : (t413 == 0)=true:=ya.mpr c12;have c12b1 : (t413 != 0)=false:=zX.mpr c12;clear c12;have H':=zh H;clear H;have p409 : 0≤(x13_1 : Int):=zy jF;have q409 : x13_1<(l0.length : Int):=zy jF;obtain ⟨ad409,e409,hx409_0,hx409_1,hx409_2⟩:=at_T24 HR0.out x13_1 p409 q409
        cases e409
        replace hx409_0:=(HB.out.cell (zl w _ hx409_0)).trans hx409_0;replace hx409_1:=(HB.out.cell (zl w _ hx409_1)).trans hx409_1;replace hx409_2:=(HB.out.cell (zl w _ hx409_2)).trans hx409_2;replace p409:=eq_true p409;replace q409:=eq_true q409
        go_wp2_with (first|((with_reducible refine zK (N:=8) rfl ?_);refine zI ?hg (N:=8) ?hd (cs:=#[.int .i64 0,.int .i64 0,.string (⟨#[]⟩ : ByteArray)]) (t:=24) ?hr ?_;(case hd=>rfl);(case hg=>rfl);(case hr=>go_simp <;> rfl);intro gb410 hg w13 hbox hb;have BK410:=zh (hbox);have hH_:=cH jD hb hg;have GW410:=zh hH_.1;have GE410:=GW410;replace HB:=zh hH_.2;clear hb hbox hg hH_;obtain ⟨hcz14_0,hcz14_1,hcz14_2,hfz14_0,hfz14_1,hfz14_2⟩:=cB3 BK410.out;have p411 : 0≤(x13_1 : Int):=zy jF;have q411 : x13_1<(l1.length : Int):=zy jF;obtain ⟨ad411,e411,hx411_0,hx411_1,hx411_2⟩:=at_T24 HR1.out x13_1 p411 q411;cases e411;have hn411_0 : ad411.block≠gb410:=yc (Nat.lt_of_lt_of_le jAC GW410.out);have hn411_1 : ad411.block≠gb410:=yc (Nat.lt_of_lt_of_le jAC GW410.out);have hn411_2 : ad411.block≠gb410:=yc (Nat.lt_of_lt_of_le jAC GW410.out);replace hx411_0:=(HB.out.cell (zl w _ hx411_0)).trans hx411_0;replace hx411_1:=(HB.out.cell (zl w _ hx411_1)).trans hx411_1;replace hx411_2:=(HB.out.cell (zl w _ hx411_2)).trans hx411_2;replace hx411_0:=(zR (p:=⟨gb410,0,none⟩) jAD (.int .i64 ((rd_T24 l0 x13_1).f0))).trans hx411_0;replace hx411_1:=(zR (p:=⟨gb410,0,none⟩) jAD (.int .i64 ((rd_T24 l0 x13_1).f0))).trans hx411_1;replace hx411_2:=(zR (p:=⟨gb410,0,none⟩) jAD (.int .i64 ((rd_T24 l0 x13_1).f0))).trans hx411_2;replace hx411_0:=(zR (p:=⟨gb410,1,none⟩) jAE (.int .i64 ((rd_T24 l0 x13_1).f1))).trans hx411_0;replace hx411_1:=(zR (p:=⟨gb410,1,none⟩) jAE (.int .i64 ((rd_T24 l0 x13_1).f1))).trans hx411_1;replace hx411_2:=(zR (p:=⟨gb410,1,none⟩) jAE (.int .i64 ((rd_T24 l0 x13_1).f1))).trans hx411_2;replace hx411_0:=(zR (p:=⟨gb410,2,none⟩) jAF (.string ((rd_T24 l0 x13_1).f2))).trans hx411_0;replace hx411_1:=(zR (p:=⟨gb410,2,none⟩) jAF (.string ((rd_T24 l0 x13_1).f2))).trans hx411_1;replace hx411_2:=(zR (p:=⟨gb410,2,none⟩) jAF (.string ((rd_T24 l0 x13_1).f2))).trans hx411_2;clear hn411_0 hn411_1 hn411_2;replace p411:=eq_true p411;replace q411:=eq_true q411)|((with_reducible refine zK (N:=9) rfl ?_);refine zI ?hg (N:=9) ?hd (cs:=#[.int .i64 0,.int .i64 0,.string (⟨#[]⟩ : ByteArray)]) (t:=24) ?hr ?_;(case hd=>rfl);(case hg=>rfl);(case hr=>go_simp <;> rfl);intro gb412 hg w15 hbox hb;have BK412:=zh (hbox);have hH_:=cH jA7 hb hg;have GW412:=zh hH_.1;have GE412:=GW412;replace HB:=zh hH_.2;have NB410_412:=zh ((jCs : gb410≠gb412));have NB412_410:=zh NB410_412.out.symm;replace BK410:=zh (zD (g:=gb410) (o:=.cells #[.int .i64 ((rd_T24 l0 x13_1).f0),.int .i64 ((rd_T24 l0 x13_1).f1),.string ((rd_T24 l0 x13_1).f2)] 24 (0,0)) jB6 hb);clear hb hbox hg hH_;have hnb16:=NB412_410.out;have hnc16:=NB410_412.out;obtain ⟨hcz17_0,hcz17_1,hcz17_2,hfz17_0,hfz17_1,hfz17_2⟩:=cB3 BK412.out;obtain ⟨hcz18_0,hcz18_1,hcz18_2,hfz18_0,hfz18_1,hfz18_2⟩:=cB3 BK410.out)|(go_at_call 13;(with_reducible refine (hG ((rd_T24 l0 x13_1).f0) ((rd_T24 l0 x13_1).f1) ((rd_T24 l0 x13_1).f2) ((rd_T24 l1 x13_1).f0) ((rd_T24 l1 x13_1).f1) ((rd_T24 l1 x13_1).f2) t413 _ A11.out).mono ?_);rintro e w19 ⟨rfl,hb⟩;replace BK410:=zh (cD BK410.out jCt hb);replace BK412:=zh (zD (g:=gb412) (o:=.cells #[.int .i64 ((rd_T24 l1 x13_1).f0),.int .i64 ((rd_T24 l1 x13_1).f1),.string ((rd_T24 l1 x13_1).f2)] 24 (0,0)) jCu hb);replace HB:=zh (zC jAn hb);(try clear hb);(try clear hb2);(try clear hk);(try clear hi)))
        go_roundg k1
        case measure=>have:=HK1.out;omega
        case rel=>exact ⟨(wrap64 (x13_1+1)),jE,H',⟨jN⟩,⟨jAn⟩⟩
       rw [if_neg c12] at H;have c12b0 : (t413 == 0)=false:=zY.mpr c12;have c12b1 : (t413 != 0)=true:=zZ.mpr c12;obtain rfl:=zU H;have p409 : 0≤(x13_1 : Int):=zy jF;have q409 : x13_1<(l0.length : Int):=zy jF;obtain ⟨ad409,e409,hx409_0,hx409_1,hx409_2⟩:=at_T24 HR0.out x13_1 p409 q409
       cases e409
       replace hx409_0:=(HB.out.cell (zl w _ hx409_0)).trans hx409_0;replace hx409_1:=(HB.out.cell (zl w _ hx409_1)).trans hx409_1;replace hx409_2:=(HB.out.cell (zl w _ hx409_2)).trans hx409_2;replace p409:=eq_true p409;replace q409:=eq_true q409
       go_wp2_with (first|((with_reducible refine zK (N:=8) rfl ?_);refine zI ?hg (N:=8) ?hd (cs:=#[.int .i64 0,.int .i64 0,.string (⟨#[]⟩ : ByteArray)]) (t:=24) ?hr ?_;(case hd=>rfl);(case hg=>rfl);(case hr=>go_simp <;> rfl);intro gb410 hg w20 hbox hb;have BK410:=zh (hbox);have hH_:=cH jD hb hg;have GW410:=zh hH_.1;have GE410:=GW410;replace HB:=zh hH_.2;clear hb hbox hg hH_;obtain ⟨hcz21_0,hcz21_1,hcz21_2,hfz21_0,hfz21_1,hfz21_2⟩:=cB3 BK410.out;have p411 : 0≤(x13_1 : Int):=zy jF;have q411 : x13_1<(l1.length : Int):=zy jF;obtain ⟨ad411,e411,hx411_0,hx411_1,hx411_2⟩:=at_T24 HR1.out x13_1 p411 q411;cases e411;have hn411_0 : ad411.block≠gb410:=yc (Nat.lt_of_lt_of_le jAC GW410.out);have hn411_1 : ad411.block≠gb410:=yc (Nat.lt_of_lt_of_le jAC GW410.out);have hn411_2 : ad411.block≠gb410:=yc (Nat.lt_of_lt_of_le jAC GW410.out);replace hx411_0:=(HB.out.cell (zl w _ hx411_0)).trans hx411_0;replace hx411_1:=(HB.out.cell (zl w _ hx411_1)).trans hx411_1;replace hx411_2:=(HB.out.cell (zl w _ hx411_2)).trans hx411_2;replace hx411_0:=(zR (p:=⟨gb410,0,none⟩) jAD (.int .i64 ((rd_T24 l0 x13_1).f0))).trans hx411_0;replace hx411_1:=(zR (p:=⟨gb410,0,none⟩) jAD (.int .i64 ((rd_T24 l0 x13_1).f0))).trans hx411_1;replace hx411_2:=(zR (p:=⟨gb410,0,none⟩) jAD (.int .i64 ((rd_T24 l0 x13_1).f0))).trans hx411_2;replace hx411_0:=(zR (p:=⟨gb410,1,none⟩) jAE (.int .i64 ((rd_T24 l0 x13_1).f1))).trans hx411_0;replace hx411_1:=(zR (p:=⟨gb410,1,none⟩) jAE (.int .i64 ((rd_T24 l0 x13_1).f1))).trans hx411_1;replace hx411_2:=(zR (p:=⟨gb410,1,none⟩) jAE (.int .i64 ((rd_T24 l0 x13_1).f1))).trans hx411_2;replace hx411_0:=(zR (p:=⟨gb410,2,none⟩) jAF (.string ((rd_T24 l0 x13_1).f2))).trans hx411_0;replace hx411_1:=(zR (p:=⟨gb410,2,none⟩) jAF (.string ((rd_T24 l0 x13_1).f2))).trans hx411_1;replace hx411_2:=(zR (p:=⟨gb410,2,none⟩) jAF (.string ((rd_T24 l0 x13_1).f2))).trans hx411_2;clear hn411_0 hn411_1 hn411_2;replace p411:=eq_true p411;replace q411:=eq_true q411)|((with_reducible refine zK (N:=9) rfl ?_);refine zI ?hg (N:=9) ?hd (cs:=#[.int .i64 0,.int .i64 0,.string (⟨#[]⟩ : ByteArray)]) (t:=24) ?hr ?_;(case hd=>rfl);(case hg=>rfl);(case hr=>go_simp <;> rfl);intro gb412 hg w22 hbox hb;have BK412:=zh (hbox);have hH_:=cH jA7 hb hg;have GW412:=zh hH_.1;have GE412:=GW412;replace HB:=zh hH_.2;have NB410_412:=zh ((jCs : gb410≠gb412));have NB412_410:=zh NB410_412.out.symm;replace BK410:=zh (zD (g:=gb410) (o:=.cells #[.int .i64 ((rd_T24 l0 x13_1).f0),.int .i64 ((rd_T24 l0 x13_1).f1),.string ((rd_T24 l0 x13_1).f2)] 24 (0,0)) jB6 hb);clear hb hbox hg hH_;have hnb23:=NB412_410.out;have hnc23:=NB410_412.out;obtain ⟨hcz24_0,hcz24_1,hcz24_2,hfz24_0,hfz24_1,hfz24_2⟩:=cB3 BK412.out;obtain ⟨hcz25_0,hcz25_1,hcz25_2,hfz25_0,hfz25_1,hfz25_2⟩:=cB3 BK410.out)|(go_at_call 13;(with_reducible refine (hG ((rd_T24 l0 x13_1).f0) ((rd_T24 l0 x13_1).f1) ((rd_T24 l0 x13_1).f2) ((rd_T24 l1 x13_1).f0) ((rd_T24 l1 x13_1).f1) ((rd_T24 l1 x13_1).f2) t413 _ A11.out).mono ?_);rintro e w26 ⟨rfl,hb⟩;replace BK410:=zh (cD BK410.out jCt hb);replace BK412:=zh (zD (g:=gb412) (o:=.cells #[.int .i64 ((rd_T24 l1 x13_1).f0),.int .i64 ((rd_T24 l1 x13_1).f1),.string ((rd_T24 l1 x13_1).f2)] 24 (0,0)) jCu hb);replace HB:=zh (zC jAn hb);(try clear hb);(try clear hb2);(try clear hk);(try clear hi)))
       go_ret
       exact ⟨jG,jAn⟩
      rw [if_neg c10] at H;exact absurd H (by simp)
     rw [if_neg c6] at H;exact absurd H (by simp)
    rw [if_neg c5] at H;exact absurd H (by simp)
   rw [if_neg c4] at H;have c4b0 : decide (x13_1<(l0.length : Int))=false:=decide_eq_false c4;clear c4
   by_cases c27 : (l0.length : Int)<(l1.length : Int)
   ·
    rw [if_pos c27] at H
    have c27b0 : decide ((l0.length : Int)<(l1.length : Int))=true:=decide_eq_true c27;have c27b1 : decide (l0.length<l1.length)=true:=decide_eq_true (zV.mp c27);clear c27;obtain rfl:=zU H
    go_wp2
    go_ret
    exact ⟨jG,jD⟩
   rw [if_neg c27] at H;have c27b0 : decide ((l0.length : Int)<(l1.length : Int))=false:=decide_eq_false c27;have c27b1 : decide (l0.length<l1.length)=false:=decide_eq_false (fun h=>c27 (zV.mpr h));clear c27;obtain rfl:=zU H
   go_wp2
   go_ret
   exact ⟨jG,jD⟩


def strings_Compare.f (a0 : ByteArray) (a1 : ByteArray) : Option (Int):=some (Lib.compareBytes a0.data.toList a1.data.toList)
set_option maxHeartbeats 1000000 in
set_option maxRecDepth 100000 in
theorem strings_Compare.inner (a b : ByteArray) (w : World) :
  Calls Try.prog 58 #[.string a,.string b] w fun e w' => e = .returned (.int .i64 (Lib.compareBytes a.data.toList b.data.toList))∧w' = w:=by
 go_enter Try.func58,Try.ntmps58
 go_wp2
 rw [run_callFunc_extern Try.func72 jA jA jA (e:=Extern.BytealgCompare.compare) jA,Lib.run_compareString];simp only [Result.andThen];rw [Oper.upon_value]
 go_wp2
 go_ret
 exact ⟨rfl,rfl⟩
set_option maxHeartbeats 1000000 in
theorem strings_Compare.calls (a0 : ByteArray) (a1 : ByteArray) (r : Int) (w : World) (h : strings_Compare.f a0 a1=some r) :
  Calls Try.prog 38 #[.string a0,.string a1] w fun e w' => e = .returned (.int .i64 r)∧Drawn0 w w':=by
 have h' : (some (Lib.compareBytes a0.data.toList a1.data.toList))=some r:=h;obtain rfl:=zU h';clear h h'
 go_enter Try.func38,Try.ntmps38
 go_wp2_with (go_at_call 58;refine (strings_Compare.inner _ _ _).mono ?_;rintro e w' ⟨rfl,rfl⟩)
 go_ret
 exact ⟨rfl,yp _⟩


def F0h.f (k : Nat) (G : Int→Int→ByteArray→Int→Int→ByteArray→Option (Int)) (a0_0 : ByteArray) (a0_1 : Int) (a0_2 : Int) (a0_3 : ByteArray) (a1_0 : ByteArray) (a1_1 : Int) (a1_2 : Int) (a1_3 : ByteArray) : Option (Int):=(strings_Compare.f a0_0 a1_0).bind fun t403=>((G a0_1 a0_2 a0_3 a1_1 a1_2 a1_3).bind fun t404=>((Fs.f k (([t403,t404] : List Int))).bind fun t408=>(some t408)))
theorem F0h.mono : ∀ (G G' : Int→Int→ByteArray→Int→Int→ByteArray→Option (Int)) (hG : ∀ y0 y1 y2 y3 y4 y5,LeO (G y0 y1 y2 y3 y4 y5) (G' y0 y1 y2 y3 y4 y5)),∀ a0 a1 a2 a3 a4 a5 a6 a7 k,LeO (F0h.f k G a0 a1 a2 a3 a4 a5 a6 a7) (F0h.f (k+1) G' a0 a1 a2 a3 a4 a5 a6 a7):=by
 intro G G' hG a0 a1 a2 a3 a4 a5 a6 a7 k;unfold F0h.f
 repeat' first|(with_reducible first|exact hG _ _ _ _ _ _|exact Fs.mono _ _|exact zQ _|exact zN _|refine zP ?_ ?_|refine zO ?_ (fun _=>?_))|refine zP ?_ ?_|refine zO ?_ (fun _=>?_)
def F0h.T1 : Bool×List (List Nat×List Nat):=(true,[([],[]),([0],[0]),([],[]),([2],[2]),([1,3],[1,3]),([],[]),([5],[5]),([],[]),([7],[7]),([6,8,4],[6,8]),([4,9],[4,9]),([10,9],[10]),([11,11,0,1,2,3,4,5,6,7,8,9,10,11],[11])])
def F0h.B1 : List Nat:=[0,1,0,4,15,0,32,0,128,511,1023,2047,4095]
theorem F0h.tab1 : rtab .any (opsOf Try.f37 1)=F0h.T1:=by kernel_rfl
theorem F0h.bits1 : waitsOk F0h.T1.2 F0h.B1=true:=by kernel_rfl
set_option maxHeartbeats 8000000 in
set_option maxRecDepth 100000 in
theorem F0h.calls (k : Nat) (G : Int→Int→ByteArray→Int→Int→ByteArray→Option (Int)) (hG : ∀ (a0_0 : Int) (a0_1 : Int) (a0_2 : ByteArray) (a1_0 : Int) (a1_1 : Int) (a1_2 : ByteArray) (r : Int) (w : World) (h : G a0_0 a0_1 a0_2 a1_0 a1_1 a1_2=some r),Calls Try.prog 13 #[.agg #[.int .i64 a0_0,.int .i64 a0_1,.string a0_2],.agg #[.int .i64 a1_0,.int .i64 a1_1,.string a1_2]] w fun e w' => e = .returned (.int .i64 r)∧Below w.heap.size w w') (a0_0 : ByteArray) (a0_1 : Int) (a0_2 : Int) (a0_3 : ByteArray) (a1_0 : ByteArray) (a1_1 : Int) (a1_2 : Int) (a1_3 : ByteArray) (r : Int) (w : World) (h : F0h.f k G a0_0 a0_1 a0_2 a0_3 a1_0 a1_1 a1_2 a1_3=some r) :
  Calls Try.prog 37 #[.agg #[.string a0_0,.int .i64 a0_1,.int .i64 a0_2,.string a0_3],.agg #[.string a1_0,.int .i64 a1_1,.int .i64 a1_2,.string a1_3]] w fun e w' => e = .returned (.int .i64 r)∧Below w.heap.size w w':=by
 have hu68:=Try.underlying68;have hu24:=Try.underlying24;have HB:=zh (Below.refl w.heap.size w);have H : ((strings_Compare.f a0_0 a1_0).bind fun t403=>((G a0_1 a0_2 a0_3 a1_1 a1_2 a1_3).bind fun t404=>((Fs.f k (([t403,t404] : List Int))).bind fun t408=>(some t408))))=some r:=h;clear h;replace H:=zT.mp H;obtain ⟨t403,A30,H⟩:=H;have A3:=zh A30;clear A30;replace H:=zT.mp H;obtain ⟨t404,A40,H⟩:=H;have A4:=zh A40;clear A40;obtain ⟨y405,hy405⟩ : ∃ y_ : List Int,y_=(([t403,t404] : List Int)):=⟨_,rfl⟩;replace H : ((Fs.f k y405).bind fun t408=>(some t408))=some r:=by first|(rw [hy405];with_reducible exact H)|(have H2_:=(Option.bind_some _ _).symm.trans H;rw [hy405];with_reducible exact H2_)|(have H2_:=(Option.bind_some _ _).symm.trans H;with_reducible exact H2_)|with_reducible exact H|(rw [hy405];exact H)|exact H
 have Ny405:=zh hy405;clear hy405;replace H:=zT.mp H;obtain ⟨t408,A50,H⟩:=H;have A5:=zh A50;clear A50;obtain rfl:=zU H
 go_enter Try.func37,Try.ntmps37
 try go_wp2_with (first|((with_reducible refine zK (N:=2) rfl ?_);refine zI ?hg (N:=2) ?hd (cs:=#[.string a0_0,.int .i64 a0_1,.int .i64 a0_2,.string a0_3]) (t:=68) ?hr ?_;(case hd=>rfl);(case hg=>rfl);(case hr=>go_simp <;> rfl);intro gb401 hg w6 hbox hb;have BK401:=zh (hbox);have hH_:=cH jD hb hg;have GW401:=zh hH_.1;have GE401:=GW401;replace HB:=zh hH_.2;clear hb hbox hg hH_)|((with_reducible refine zK (N:=3) rfl ?_);refine zI ?hg (N:=3) ?hd (cs:=#[.string a1_0,.int .i64 a1_1,.int .i64 a1_2,.string a1_3]) (t:=68) ?hr ?_;(case hd=>rfl);(case hg=>rfl);(case hr=>go_simp <;> rfl);intro gb402 hg w7 hbox hb;have BK402:=zh (hbox);have hH_:=cH (by repeat (with_reducible first|exact HB.out|apply za|apply zb|apply zc|refine zd ?_ GE401.out)) hb hg;have GW402:=zh hH_.1;have GE402:=GW402;replace HB:=zh hH_.2;have NB401_402:=zh ((by rw [hg];exact yc (yi (g:=gb401) (o:=.cells #[.string a0_0,.int .i64 a0_1,.int .i64 a0_2,.string a0_3] 68 (0,0)) jBb) : gb401≠gb402));have NB402_401:=zh NB401_402.out.symm;replace BK401:=zh (cD BK401.out jBb hb);clear hb hbox hg hH_))
 replace BK401:=zh (zf BK401.out);replace BK402:=zh (zf BK402.out);replace HB:=zh (zc HB.out);refine start_ (n:=13) (S:=fun w' => w'.cell? ⟨gb401,0,none⟩=some (.string a0_0)∧w'.cell? ⟨gb401,1,none⟩=some (.int .i64 a0_1)∧w'.cell? ⟨gb401,2,none⟩=some (.int .i64 a0_2)∧w'.cell? ⟨gb401,3,none⟩=some (.string a0_3)∧w'.cell? ⟨gb402,0,none⟩=some (.string a1_0)∧w'.cell? ⟨gb402,1,none⟩=some (.int .i64 a1_1)∧w'.cell? ⟨gb402,2,none⟩=some (.int .i64 a1_2)∧w'.cell? ⟨gb402,3,none⟩=some (.string a1_3)) (ds:=[]) (bm_ 0 13) jA rfl rfl ⟨(zz BK401.out 0).trans rfl,(zz BK401.out 1).trans rfl,(zz BK401.out 2).trans rfl,(zz BK401.out 3).trans rfl,(zz BK402.out 0).trans rfl,(zz BK402.out 1).trans rfl,(zz BK402.out 2).trans rfl,(zz BK402.out 3).trans rfl⟩ (fun hHeld=>?_);refine with_tabW F0h.tab1 F0h.bits1 (fun HT_ HW_=>?_);generalize w7.drew=w8 at BK401 BK402 HB hHeld ⊢;refine pure_ (i:=0) (N:=some 5) (v:=?_) (a':=?_) (bm_ 1 13) rfl rfl (any_of HT_.out jA) (fun _ _ _ h=>h) (Or.inl ⟨by rfl,?_⟩) ?_ ?_;rotate_left;exact jb;rotate_left;exact jc
 refine pure_ (i:=2) (N:=some 7) (v:=?_) (a':=?_) #[true,false,true,false,false,false,false,false,false,false,false,false,false] rfl rfl (any_of HT_.out jA) (fun _ _ _ h=>h) (Or.inl ⟨by rfl,?_⟩) ?_ ?_;rotate_left;exact jb;rotate_left;exact jc
 refine pure_ (i:=5) (N:=some 10) (v:=?_) (a':=?_) #[true,false,true,false,false,true,false,false,false,false,false,false,false] rfl rfl (any_of HT_.out jA) (fun _ _ _ h=>h) (Or.inl ⟨by rfl,?_⟩) ?_ ?_;rotate_left;exact jb;rotate_left;exact jc
 refine pure_ (i:=7) (N:=some 12) (v:=?_) (a':=?_) #[true,false,true,false,false,true,false,true,false,false,false,false,false] rfl rfl (any_of HT_.out jA) (fun _ _ _ h=>h) (Or.inl ⟨by rfl,?_⟩) ?_ ?_;rotate_left;exact jb;rotate_left;exact jc
 refine take_ (i:=1) (N:=some 6) (v:=?_) (a':=?_) #[true,true,true,false,false,true,false,true,false,false,false,false,false] rfl rfl (yo HT_.out HW_.out jA) (fun _ _ _ h=>h) (Or.inl ⟨by rfl,?_⟩) hHeld ?_ ?_;rotate_left
 ·
  rintro w' ⟨s0,s1,s2,s3,s4,s5,s6,s7⟩
  go_simp
  with_reducible rfl
 rotate_left
 exact jc
 refine take_ (i:=3) (N:=some 8) (v:=?_) (a':=?_) #[true,true,true,true,false,true,false,true,false,false,false,false,false] rfl rfl (yo HT_.out HW_.out jA) (fun _ _ _ h=>h) (Or.inl ⟨by rfl,?_⟩) hHeld ?_ ?_;rotate_left
 ·
  rintro w' ⟨s0,s1,s2,s3,s4,s5,s6,s7⟩
  go_simp
  with_reducible rfl
 rotate_left
 exact jc
 refine take_ (i:=6) (N:=some 11) (v:=?_) (a':=?_) #[true,true,true,true,false,true,true,true,false,false,false,false,false] rfl rfl (yo HT_.out HW_.out jA) (fun _ _ _ h=>h) (Or.inl ⟨by rfl,?_⟩) hHeld ?_ ?_;rotate_left
 ·
  rintro w' ⟨s0,s1,s2,s3,s4,s5,s6,s7⟩
  go_simp
  with_reducible rfl
 rotate_left
 exact jc
 refine take_ (i:=8) (N:=some 13) (v:=?_) (a':=?_) #[true,true,true,true,false,true,true,true,true,false,false,false,false] rfl rfl (yo HT_.out HW_.out jA) (fun _ _ _ h=>h) (Or.inl ⟨by rfl,?_⟩) hHeld ?_ ?_;rotate_left
 ·
  rintro w' ⟨s0,s1,s2,s3,s4,s5,s6,s7⟩
  go_simp
  with_reducible rfl
 rotate_left
 exact jc
 refine one_ (i:=4) (N:=some 9) (bm_ 9 13) rfl rfl (one_of HT_.out jA) jC (fun K hK=>?_);refine goes_ Try.func38 jA rfl #[.string a0_0,.string a1_0] (by rfl) rfl rfl jB ?_
 with_reducible refine (strings_Compare.calls  a0_0 a1_0 t403 _ A3.out).mono ?_
 rintro e w' ⟨rfl,⟨nd,rfl⟩⟩;refine ⟨_,rfl,?_⟩;refine hK.out _ _ ⟨(zz BK401.out 0).trans rfl,(zz BK401.out 1).trans rfl,(zz BK401.out 2).trans rfl,(zz BK401.out 3).trans rfl,(zz BK402.out 0).trans rfl,(zz BK402.out 1).trans rfl,(zz BK402.out 2).trans rfl,(zz BK402.out 3).trans rfl⟩ (fun hHeld=>?_);clear hK K;refine norm_ (a':=?_) ?_ ?_;rotate_left
 ·
  show Act.put _ (some 9) _=_
  simp only [Act.put,zi,zj,zk,zG,zH]
  rfl
 refine one_ (i:=9) (N:=some 14) (bm_ 10 13) rfl rfl (one_of HT_.out jA) jC (fun K hK=>?_);refine goes_ Try.func13 jA rfl #[.agg #[.int .i64 a0_1,.int .i64 a0_2,.string a0_3],.agg #[.int .i64 a1_1,.int .i64 a1_2,.string a1_3]] (by rfl) rfl rfl jB ?_
 with_reducible refine (hG a0_1 a0_2 a0_3 a1_1 a1_2 a1_3 t404 _ A4.out).mono ?_
 rintro e w9 ⟨rfl,hb⟩;refine ⟨_,rfl,?_⟩;replace BK401:=zh (cD BK401.out jBb hb);replace BK402:=zh (cD BK402.out jCv hb);replace HB:=zh (zC jBc hb);(try clear hb);(try clear hb2);(try clear hk);(try clear hi);refine hK.out _ _ ⟨(zz BK401.out 0).trans rfl,(zz BK401.out 1).trans rfl,(zz BK401.out 2).trans rfl,(zz BK401.out 3).trans rfl,(zz BK402.out 0).trans rfl,(zz BK402.out 1).trans rfl,(zz BK402.out 2).trans rfl,(zz BK402.out 3).trans rfl⟩ (fun hHeld=>?_);clear hK K;refine norm_ (a':=?_) ?_ ?_;rotate_left
 ·
  show Act.put _ (some 14) _=_
  simp only [Act.put,zi,zj,zk,zG,zH]
  rfl
 refine one_ (i:=10) (N:=some 15) (bm_ 11 13) rfl rfl (one_of HT_.out jA) jC (fun K hK=>?_);refine Kd.R_lit_step (Kd.int .i64) _ 3 ?hg (N:=15) ?hd (xs:=([t403,t404] : List Int)) (inner:=[.int .i64 t403,.int .i64 t404]) (ok:=fun _=>True) (okp:=fun _=>True) ?hr ?hp (fun _ hk=>hk) trivial (Below.refl _ _) (ye _) (by simp) ?_;(case hd=>rfl);(case hg=>rfl);(case hr=>go_simp <;> rfl);(case hp=>exact (Reps.one (show Kd.M (Kd.int .i64) _ _ _ t403 [.int .i64 t403] from rfl) (Reps.one (show Kd.M (Kd.int .i64) _ _ _ t404 [.int .i64 t404] from rfl) (Reps.none _ _))));intro v406 w10 ho11 hb hg_ hnew_;clear hg_ hnew_;(first|rw [← Ny405.out] at ho11|(simp only [Int.reduceToNat] at ho11;rw [← Ny405.out] at ho11));have HO407:=zh (yy ho11 (zB jBc));replace BK401:=zh (cD BK401.out jBb hb);replace BK402:=zh (cD BK402.out jCv hb);replace HB:=zh (zC jBc hb);clear hb ho11;obtain ⟨Ao12,co12,eo12⟩:=yk HO407.out;(first|subst eo12|(injection eo12 with f1_ f2_ f3_;have f4_:=f1_.symm;have f5_:=f3_.symm;clear f1_ f2_ f3_;subst f4_;subst f5_));refine hK.out _ _ ⟨(zz BK401.out 0).trans rfl,(zz BK401.out 1).trans rfl,(zz BK401.out 2).trans rfl,(zz BK401.out 3).trans rfl,(zz BK402.out 0).trans rfl,(zz BK402.out 1).trans rfl,(zz BK402.out 2).trans rfl,(zz BK402.out 3).trans rfl⟩ (fun hHeld=>?_);clear hK K;refine norm_ (a':=?_) ?_ ?_;rotate_left
 ·
  show Act.put _ (some 15) _=_
  simp only [Act.put,zi,zj,zk,zG,zH]
  rfl
 refine one_ (i:=11) (N:=some 16) (bm_ 12 13) rfl rfl (one_of HT_.out jA) jC (fun K hK=>?_);refine goes_ Try.func31 jA rfl #[.slice Ao12 y405.length co12] (by rfl) rfl rfl jB ?_
 with_reducible refine (Fs.calls k  _ _ y405 t408 _ ?side1 ?side2 A5.out).mono ?_
 (case side1=>repeat (first|exact (yh HO407.out).2.2|(with_reducible refine Kd.C_alloc ?_ _)|(with_reducible refine Kd.C_drewN ?_ _)|(with_reducible refine Kd.C_drew ?_)))
 (case side2=>exact (yh HO407.out).2.1)
 rintro e w' ⟨rfl,⟨nd,rfl⟩⟩;refine ⟨_,rfl,?_⟩;refine hK.out _ _ ⟨(zz BK401.out 0).trans rfl,(zz BK401.out 1).trans rfl,(zz BK401.out 2).trans rfl,(zz BK401.out 3).trans rfl,(zz BK402.out 0).trans rfl,(zz BK402.out 1).trans rfl,(zz BK402.out 2).trans rfl,(zz BK402.out 3).trans rfl⟩ (fun hHeld=>?_);clear hK K;refine norm_ (a':=?_) ?_ ?_;rotate_left
 ·
  show Act.put _ (some 16) _=_
  simp only [Act.put,zi,zj,zk,zG,zH]
  rfl
 refine pure_ (i:=12) (N:=some 4) (v:=?_) (a':=?_) (bm_ 13 13) rfl rfl (any_of HT_.out jA) (fun _ _ _ h=>h) (Or.inl ⟨by rfl,?_⟩) ?_ ?_;rotate_left;exact jb;rotate_left;exact jc
 refine done_ (done_of HT_.out jA) ?_
 try go_wp2
 go_ret
 exact ⟨jG,jBc⟩

end Go.Proofs.Ytdjnplkpahgnmaa.Q
end
